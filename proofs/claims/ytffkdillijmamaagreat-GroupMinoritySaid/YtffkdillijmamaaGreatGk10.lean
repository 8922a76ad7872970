/- Contracts of zab: New, follow, Committed; slices of lines. -/
import Derived.Test.YtffkdillijmamaaGreatGk8
import Derived.Test.YtffkdillijmamaaGreatGk9
namespace Go.Proofs.YtffkdillijmamaaGreat
open Go.Proofs.Tryz
set_option maxRecDepth 100000
set_option maxHeartbeats 12800000
open Go Go.RowKit
attribute [local go_sem ↓] Go.wp_at_zero Go.wp_at_succ
theorem Po (w:World):(sizeOf (prog.elem 35)).run prog w = .ok 2 w:=by
 have:prog.elem 35=41:=by kernel_rfl
 rw [this];have h5:(prog.info? 41).map (·.size)=some 2:=by kernel_rfl
 cases hq:prog.info? 41 with
 | none=>simp [hq] at h5
 | some i=>simp [hq] at h5;simp [sizeOf,typeInfo,hq,h5]
theorem sW.drop {w:World} {o:Own} {cs:List Value} {ls:List Ar} (h:sW w o cs ls) (n:Nat):sW w o (cs.drop (n*2)) (ls.drop n):=by
 refine ⟨by rw [List.length_drop,List.length_drop,h.1];omega,fun i x hx => ?_⟩;rw [List.getElem?_drop] at hx;obtain ⟨a,bv,b,c⟩:=h.2 (n+i) x hx;exact ⟨by rw [List.getElem?_drop,show n*2+2*i=2*(n+i) by omega];exact a,bv,by rw [List.getElem?_drop,show n*2+(2*i+1)=2*(n+i)+1 by omega];exact b,c⟩
theorem sW.take {w:World} {o:Own} {cs:List Value} {ls:List Ar} (h:sW w o cs ls) (n:Nat):sW w o (cs.take (n*2)) (ls.take n):=by
 refine ⟨by rw [List.length_take,List.length_take,h.1];omega,fun i x hx => ?_⟩;rw [List.getElem?_take] at hx;split at hx
 ·rename_i hi;obtain ⟨a,bv,b,c⟩:=h.2 i x hx;exact ⟨by rw [List.getElem?_take,if_pos (by omega)];exact a,bv,by rw [List.getElem?_take,if_pos (by omega)];exact b,c⟩
 ·cases hx
theorem CV.slice {base:Nat} {a:Option Addr} {n c n' c':Nat} (h:CV base (.slice a n c)) (off:Nat) (b:Nat) (ha:∀ x,a=some x->x.block=b) (hs:a.isSome=true):CV base (.slice (some ⟨b,off,none⟩) n' c'):=by
 intro k hk
 cases a with
 | none=>simp at hs
 | some x =>
  have:=ha x rfl;simp only [Value.ownBlock,Option.some.injEq] at hk;subst hk;exact h b (by simp [Value.ownBlock,this])
theorem TI {w:World} {o:Own} {base:Nat} {lv:Value} {ls:List Ar} (h:Lines w o base lv ls) (n:Nat) (hn:n<=ls.length) :
  ∃ v,(Instr.sliceAt 35 lv none (some (.int .i64 (n:Int))) none).run prog w = .ok v w/\Lines w o base v (ls.take n):=by
 have hu:prog.underlying 35=some (.slice (prog.elem 35)):=by kernel_rfl
 have hsz:=Po w;have hlt:(ls.take n).length=n:=by rw [List.length_take];omega
 obtain ⟨cs,h1,h2,h3,h4⟩:=h
 rcases h1 with ⟨⟨a,c,rfl⟩,h0,hcs⟩ | ⟨b,off,cap,rfl,hl,hm,ho,hb,hr⟩
 ·have hn0:n=0:=by omega
  subst hn0;refine ⟨_,by rw [run_sliceAt_slice _ _ _ _ _ _ hu,run_slice_h w 35 a 0 c hu .i64 ((0:Nat):Int) (by omega) (by omega),hsz];rfl,[], .inl ⟨⟨_,_,rfl⟩,by simp,rfl⟩,by simpa using sW.nil w o, ?_,by simp⟩;intro k hk;simp only [Option.map,Nat.zero_mul] at hk
  cases a with
  | none=>simp [Value.ownBlock] at hk
  | some x=>exact h3 k (by simpa [Value.ownBlock,Addr.add] using hk)
 ·refine ⟨.slice (some ⟨b,off,none⟩) n cap, ?_,cs.take (n*2), ?_,h2.take n, ?_,fun u hu=>h4 u (List.mem_of_mem_take hu)⟩
  ·rw [run_sliceAt_slice _ _ _ _ _ _ hu,run_slice_h w 35 _ ls.length cap hu .i64 n (by omega) (by omega),hsz];simp only [Result.andThen_ok,sliced,Int.toNat_natCast,Nat.sub_zero,Option.map_some,addr_add,Nat.zero_mul,Nat.add_zero];split
   ·rename_i hc0;simp
   ·rfl
  ·by_cases hn0:n=0
   ·subst hn0;exact .inl ⟨⟨_,_,rfl⟩,by simp,by simp⟩
   ·refine .inr ⟨b,off,cap,by rw [hlt],by rw [hlt];omega,hm,ho,hb, ?_⟩;have:=ER hr 0 (n*2)
    simpa using this
  ·exact h3.slice off b (fun x hx=>by cases hx;rfl) rfl
section
variable {w:World} {o:Own} {D M pz ps pd:Nat} {z:Am}
theorem FD (h:Bc w o D M pz ps pd z):Calls prog 198 #[.pointer (some ⟨pz,0,none⟩)] w (XL (ak (M+4)) w o fun v w' o'=>v = .tuple #[]/\Bc w' o' D M pz ps pd z.follow):=by
 obtain ⟨ML,rv,hb,hr,hs⟩:=h;have hf:=hb.cells.2.1;have b1:=Ai (i:=3) (.iface 184 (.agg #[])) hb.1;have b2:=Ai (i:=4) (.int .i64 0) b1;have st:=((aj.refl (ak (M+4)) w o).setCell (a:=⟨pz,3,none⟩) (.iface 184 (.agg #[])) (.inl (by show (o pz).1=M+4;rw [hb.2]))).setCell (a:=⟨pz,4,none⟩) (.int .i64 0) (.inl (by show (o pz).1=M+4;rw [hb.2]));have hF:=ae (aI st (show Bc _ _ D M pz ps pd z.follow from ⟨ML,_,⟨b2,hb.2⟩,rfl,hs.step st (KC.self ML.1)⟩));have f3:=hf 3;have f4:=hf 4;obtain ⟨⟨-, -, -,c3,c4, -⟩, -⟩:=hb.cells;clear hb hr hs b1 b2 st hf;go_enter func198,ntmps198;go_wp2_with fail
 go_end0
 exact ⟨_,o,rfl,hF.out.1,rfl,hF.out.2⟩
theorem QU (h:Bc w o D M pz ps pd z) (hsm:small z.s.kept.lines) (hc:z.Ag<=z.s.kept.lines.length) :
  Calls prog 63 #[.pointer (some ⟨pz,0,none⟩)] w (XL ai w o fun v w' o'=>Lines w' o' w.heap.size v (z.s.kept.lines.take z.Ag)):=by
 obtain ⟨-,rv,hb,hr,hs⟩:=h;have hkp:=ae (DJ (w:=w.drew) hs hsm);have hdr:aj ai w o w.drew o:=(aj.refl ai w o).drew;obtain ⟨⟨-, -,c2, -, -, -,c6⟩, -⟩:=(hb.step hdr id).cells;have hS:=aI c2 c6;have xZ:=ae (hb.step hdr id);clear hb hr hs c2 c6;go_enter func63,ntmps63;go_wp2_with fail;refine Aa (fun w'=>w'.cell? ⟨pz,2,none⟩=some (.pointer (some ⟨ps,0,none⟩))/\w'.cell? ⟨pz,6,none⟩=some (.int .i64 (z.Ag:Int))) (fun _=>true) (by kernel_rfl) hS (fun hHeld => ?_);refine tq 0 (h:=tq 1 (h:=tq 2 (h:=tq 3 (h:=tq 6 (h:=tq 7 (h:=tq 8 (h:=tq 9 (h:=tO 4 (h:=?_)))))))));go_wp2_with fail;refine hkp.out.mono ?_;rintro e w1 ⟨v1,o1,rfl,hs1,lv,rfl,hl,rfl⟩;obtain ⟨⟨-, -,d2, -, -, -,d6⟩, -⟩:=(xZ.out.step hs1 id).cells;have hS1:=aI d2 d6;obtain ⟨sv,hsr,hsl⟩:=TI hl z.Ag hc;have Aln:=ae hsr;have hF:=ae (aI (hdr.trans hs1) hsl);obtain ⟨la,lc,rfl⟩:=hl.form;have hfk:=fun W=>He W (.int .u64 (z.s.kept.promised.toNat:Int)) (.int .u64 (z.s.kept.current.toNat:Int)) (.slice la z.s.kept.lines.length lc);clear hs1 hl hsr hsl d2 d6 hHeld;unfold Dy;go_wp2_with fail;refine ⟨fun _=>hS1, ?_⟩;refine tq 5 (h:=tO 10 (h:=?_));refine FM Aln.out ?_;simp only [Act.put,GL,DL,lss];go_wp2_with fail;refine ⟨fun _=>hS1, ?_⟩;refine tq 11 (h:=tD (h:=?_));clear hS1;go_wp2_with fail;go_ret;exact ⟨_,_,rfl,hF.out.1,hF.out.2⟩
theorem XC {s:AZ} (ML:D<=M/\D ≠ 0) (h:Bi w o (M+1) (M+2) (M+3) D ps pd 0 s) (hd:(s.dead || s.d.dead)=false) (id n:Nat) (h1:1<=n) (h3:n<=3) (hi:id<n) :
  Calls prog 91 #[.int .i64 (id:Int), .int .i64 (n:Int), .pointer (some ⟨ps,0,none⟩)] w (XL ai w o fun v w' o'=>∃ pz,v = .tuple #[.pointer (some ⟨pz,0,none⟩), .int .i64 0]/\w.heap.size<=pz/\Bc w' o' D M pz ps pd (Am.new id n s)):=by
 have hdd:=KH h;rw [hd] at hdd;have AbE:=ae hdd;have st:=(aj.refl ai w o).alloc (.cells (IL id n ps (.iface 184 (.agg #[])) 0 0 0).toArray 140) (M+4,0);have hb:=heap_alloc_new w (.cells (IL id n ps (.iface 184 (.agg #[])) 0 0 0).toArray 140);have hF:=ae (aI st (show Bc _ _ D M w.heap.size ps pd (Am.new id n s) from ⟨ML,_,⟨hb,Au _ _ _⟩,rfl,h.step0 st⟩));have i1:¬ (n:Int)<1:=by omega
 have i2:¬ (3:Int)<(n:Int):=by omega
 have i3:¬ (id:Int)<0:=by omega
 have i4:¬ (n:Int)<=(id:Int):=by omega
 clear h hd hdd st hb h1 h3 hi;go_enter func91,ntmps91;go_wp2_with fail;refine AbE.out.mono ?_;rintro e w' ⟨rfl,rfl⟩;go_wp2_with fail
 go_ret2
 exact ⟨_,_,rfl,hF.out.1,_,rfl,Nat.le_refl _,hF.out.2⟩
end
theorem Zj (b off k:Nat):(⟨b,off,none⟩:Addr).add k=⟨b,off+k,none⟩:=by
 unfold Addr.add;split
 ·rename_i h;subst h;rfl
 ·rfl
def Dj (n k:Nat):List Value:=List.replicate k (.int .i64 (-1))++List.replicate (n - k) (.int .i64 0)
theorem Ls {w:World} {o:Own} {b:Nat} (n:Nat) (h1:1<=n) (h3:n<=3) (hc:w.cell? ⟨b,0,none⟩=some (.int .i64 (-1))) (hb:b<w.heap.size) :
  Calls prog 199 #[.slice (some ⟨b,0,none⟩) 1 1, .int .i64 (n:Int)] w (XL ai w o fun v w' o'=>v = .slice (some ⟨w.heap.size,0,none⟩) n n/\w'.heap[w.heap.size]?=some (.cells (ivs (List.replicate n (-1))).toArray 3 (0,0))/\o'=Ak o w.heap.size (0,0)):=by
 have hmul:=Tryz.bits_Mul 1 n (by omega) (by omega) w;have e0:1*n / 18446744073709551616=0:=by omega
 have e1:1*n % 18446744073709551616=n:=by omega
 rw [e0,e1] at hmul;have hmk:=Gy (P:=prog) w 53 3 [.int .i64 0] 1 8 underlying53 (by kernel_rfl) rfl n (by omega) (by omega) .i64 .i64;have e2:(List.replicate n [Value.int .i64 0]).flatten=Dj n 0:=by
  unfold Dj;simp
 rw [e2] at hmk;obtain ⟨W,hW⟩:∃ W,w.alloc (.cells (Dj n 0).toArray 3)=W:=⟨_,rfl⟩;have hg:W.heap[w.heap.size]?=some (.cells (Dj n 0).toArray 3 (0,0)):=by rw [<-hW];exact heap_alloc_new w _
 have hst:aj ai w o W (Ak o w.heap.size (0,0)):=by rw [<-hW];exact (aj.refl ai w o).alloc _ _
 have hcW:W.cell? ⟨b,0,none⟩=some (.int .i64 (-1)):=by rw [World.cell?_of_block (w:=w) (a:=⟨b,0,none⟩) (hst.block b hb id)];exact hc
 rw [hW] at hmk;obtain ⟨g,hgE⟩:∃ g,w.heap.size=g:=⟨_,rfl⟩;rw [hgE] at hmk hg hst ⊢;have Ajb:=ae hmk;have s3:(prog.info? 3).map (·.size)=some 1:=by kernel_rfl
 have hcp:=run_copy_cells (P:=prog) W 53 53 3 3 g 0 n n ⟨b,0,none⟩ 1 1 [.int .i64 (-1)] underlying53 s3 (by show 1=min 1 n;omega) (fun j v hj=>by
  match j,hj with
  | 0,hj=>simp only [ay,Option.some.injEq] at hj;subst hj;exact hcW
  | j+1,hj=>simp at hj) (fun j hj=>by
  obtain rfl:j=0:=by simpa using hj
  rw [Nat.add_zero,ag hg,List.getElem?_eq_getElem (by simp [Dj];omega)];rfl) (fun j hj=>Ap hg _) (by simp [Value.oneCell'])
 have hg1:=BP g 3 [.int .i64 (-1)] 0 W _ hg (by simp [Dj];omega);have e3:((Dj n 0).take 0++[Value.int .i64 (-1)]++(Dj n 0).drop (0+[Value.int .i64 (-1)].length))=Dj n 1:=by
  unfold Dj
  rcases (show n=1 \/ n=2 \/ n=3 by omega) with rfl | rfl | rfl <;> rfl
 rw [e3] at hg1;have hst1:=hst.setCells g 0 [.int .i64 (-1)] (.inr (by omega));obtain ⟨W1,hW1⟩:∃ W1,W.setCells g 0 [.int .i64 (-1)]=W1:=⟨_,rfl⟩;rw [hW1] at hcp hg1 hst1;have Amm:=ae hcp;have AoO:=ae hmul;have nI:(1:Int)<=(n:Int)/\(n:Int)<=3:=by omega
 have hgH:=ae hgE;clear hmul hmk hcp hg hst hcW hW hW1 e2 e3 e0 e1 hc hb hgE;go_enter func199,ntmps199;go_wp2_with fail;refine AoO.out.mono ?_;rintro e w' ⟨rfl,rfl⟩
 go_wp2_with (first
  | ((with_reducible apply IC);exact Ajb.out;simp only [Act.put,GL,DL,lss])
  | ((with_reducible apply Vo);exact Amm.out;simp only [Act.put,GL,DL,lss]))
 clear Ajb Amm AoO
 go_loopw [8] (fun x wr=>∃ (k:Nat) (oj:Own),1<=k/\k<=n/\x = .int .i64 (k:Int)/\aj ai w' o wr (Ak o g (0,0))/\wr.heap[g]?=some (.cells (Dj n k).toArray 3 (0,0))) (fun x _=>n - (intOf x).toNat)
 case atStart=>exact ⟨1,o,by omega,by omega,rfl,hst1,hg1⟩
 case round =>
  clear hst1 hg1;obtain ⟨k,oj,hk1,hk,rfl,hst,hg⟩:=hrel
  by_cases hlt:k<n
  ·have AbY:(k:Int)<(n:Int):=by omega
   have hkI:(1:Int)<=(k:Int):=by omega
   obtain ⟨m,hm⟩:∃ m,min k (n - k)=m:=⟨_,rfl⟩;have hgd:wr.drew.heap[g]?=some (.cells (Dj n k).toArray 3 (0,0)):=hg;have hlen:(Dj n k).length=n:=by simp [Dj];omega
   have hcp:=run_copy_cells (P:=prog) wr.drew 53 53 3 3 g k (n - k) (n - k) ⟨g,0,none⟩ k n (List.replicate m (.int .i64 (-1))) underlying53 s3 (by rw [List.length_replicate];exact hm.symm) (fun j v hj=>by
    have hjm:j<m:=by have:=(List.getElem?_eq_some_iff.1 hj).1;simpa using this
    rw [List.getElem?_replicate,if_pos hjm] at hj;rw [Zj,Nat.zero_add,ag hgd,Dj,List.getElem?_append_left (by rw [List.length_replicate];omega),List.getElem?_replicate,if_pos (by omega)];exact hj) (fun j hj=>by
    rw [List.length_replicate] at hj;rw [ag hgd,List.getElem?_eq_getElem (by rw [hlen];omega)];rfl) (fun j hj=>Ap hgd _) (by intro v hv;rw [List.eq_of_mem_replicate hv];rfl)
   have hg2:=BP g 3 (List.replicate m (.int .i64 (-1))) k wr.drew _ hgd (by rw [List.length_replicate,hlen];omega);have e3:((Dj n k).take k++List.replicate m (Value.int .i64 (-1))++(Dj n k).drop (k+(List.replicate m (Value.int .i64 (-1))).length))=Dj n (k+m):=by
    unfold Dj;rw [List.length_replicate,List.take_left' (by rw [List.length_replicate]),List.replicate_append_replicate,List.drop_append,List.length_replicate,List.drop_eq_nil_of_le (by rw [List.length_replicate];omega),List.nil_append,List.drop_replicate];congr 2;omega
   rw [e3] at hg2;have hst2:=hst.drew.setCells g k (List.replicate m (.int .i64 (-1))) (.inr (by rw [<-hgH.out];exact Nat.le_refl _));rw [List.length_replicate,show (some (⟨g,k,none⟩:Addr))=(if n=k then some ⟨g,0,none⟩ else some ⟨g,k,none⟩) from (if_neg (by omega)).symm] at hcp
   have hF:=ae (aI hst2 hg2);have Amm:=ae hcp;have hmI:(0:Int)<=(m:Int)/\(m:Int)<=3:=by omega
   have hm2:1<=m/\k+m<=n:=by omega
   have htr:True:=trivial;have hwI:IntKind.i64.wrap ((k:Int)+(m:Int))=(k:Int)+(m:Int):=IntWalk.i64_in _ (by omega);clear hst hg hgd hcp hg2 hst2 e3 hlen hm;go_wp2_with fail;refine Aa (fun w'=>True) (fun _=>true) (by kernel_rfl) htr (fun hHeld => ?_);refine tq 0 (h:=tq 1 (h:=tq 2 (h:=tq 3 (h:=tq 4 (h:=tq 5 (h:=tq 6 (h:=tO 7 (h:=?_))))))));refine Vo Amm.out ?_;refine wpList_nil ?_;simp only [Act.put,GL,DL,lss];refine ⟨fun _=>htr, ?_⟩;refine tq 8 (h:=tq 9 (h:=tD (h:=?_)));obtain ⟨wz,hwz⟩:∃ wz,wr.drew.setCells g k (List.replicate m (.int .i64 (-1)))=wz:=⟨_,rfl⟩;rw [hwz] at hF ⊢;clear hwz Amm hwI;go_wp2_with fail;go_roundw
   case rel=>exact ⟨k+m,oj,by omega,by omega,by go_num,hF.out.1,hF.out.2⟩
   case measure=>simp [intOf];omega
  ·obtain rfl:n=k:=by omega
   have hF:=ae (show wr.heap[g]?=some (.cells (ivs (List.replicate n (-1))).toArray 3 (0,0)) by
    rw [hg];unfold Dj ivs;simp)
   clear hg;go_wp2_with fail;go_ret;exact ⟨_,_,rfl,hst,rfl,hF.out,rfl⟩
theorem SQ {w:World} {mb c:Nat} {es:List Ent} {ty:TypeId} (hb:w.heap[mb]?=some (.map (Bd 0 es).toArray c)):(Builtin.len_ #[204] ty #[.map (some mb)]).run prog w = .ok (.int .i64 (es.length:Int)) w:=by
 simp [Builtin.len_,run_underlying underlying204,MapKept.run_getObj_map hb,Nc,goInt]
theorem Zn:((prog.info? 203).bind (·.zero)).map (·.cells)=some #[.int .u64 0, .slice none 0 0]:=by kernel_rfl
theorem ZN:(prog.info? 203).map (·.size)=some 2:=by kernel_rfl
theorem Agu (w:World) (c:Int) (la:Option Addr) (ln lc:Nat) :
  (Instr.storeAt 203 (.pointer (some ⟨w.heap.size,0,none⟩)) (.agg [.int .u64 c, .slice la ln lc].toArray)).run prog (w.alloc (.cells [.int .u64 0, .slice none 0 0].toArray 203)) = .ok () (w.alloc (.cells [.int .u64 c, .slice la ln lc].toArray 203)):=by
 have h:=(Ba (P:=prog) (ty:=203) (vs:=[.int .u64 c, .slice la ln lc]) (heap_alloc_new w (.cells [.int .u64 0, .slice none 0 0].toArray 203)) rfl ZN rfl).1;rw [Be w [Value.int .u64 0, .slice none 0 0].toArray 203 [.int .u64 c, .slice la ln lc] rfl] at h;exact h
abbrev bst:Option DT->Nat × DT->Option DT:=fun b x=>EW b (some x.2)
theorem NU {sm:List (Nat × DT)} {k:Nat} {x:Nat × DT} (h:sm[k]?=some x) (b:Option DT):(sm.take (k+1)).foldl bst b=EW ((sm.take k).foldl bst b) (some x.2):=by
 have hl:=(List.getElem?_eq_some_iff.1 h).1;rw [List.take_succ_eq_append_getElem hl,List.foldl_append];have he:sm[k]=x:=(List.getElem?_eq_some_iff.1 h).2;rw [he];rfl
theorem RQ:∀ (l:List (Nat × DT)) (b:Option DT),b.isSome=true->(l.foldl bst b).isSome=true
 | [],_,h=>h
 | x :: r,b,h=>by
  rw [List.foldl_cons];refine RQ r _ ?_
  cases b with
  | none=>rfl
  | some q=>simp only [bst,EW];split <;> rfl
theorem VK {l:List (Nat × DT)} (h:l ≠ []):(l.foldl bst none).isSome=true:=by
 cases l with
 | nil=>exact absurd rfl h
 | cons x r=>rw [List.foldl_cons];exact RQ r _ rfl
theorem XU (w:World):(Instr.buildSlice 53 1 #[(0, .int .i64 (-1))]).run prog w = .ok (.slice (some ⟨w.heap.size,0,none⟩) 1 1) (w.alloc (.cells [Value.int .i64 (-1)].toArray 3)):=by kernel_rfl
theorem Ov {a b:Aj} (hn:a.n=b.n) (hi:a.id=b.id) (f:Nat->BG):a.others f=b.others f:=by unfold Aj.others;rw [hn,hi]
theorem Am.NV (z:Am) (mine:BitVec 64) (nR:List Int) (base:Nat) (ready:Bool):(z.count mine nR base ready).BN.n=z.n/\(z.count mine nR base ready).BN.id=z.id:=by
 unfold Am.count;simp only;split <;> exact ⟨rfl,rfl⟩
theorem Xy (p q:DT):Jw p q=(decide (q.1.toNat<p.1.toNat) || (decide (p.1.toNat=q.1.toNat) && decide (q.2.length<p.2.length))):=by
 unfold Jw;congr 2
 by_cases h:p.1=q.1
 ·simp [h]
 ·have:¬ p.1.toNat=q.1.toNat:=fun e=>h (BitVec.eq_of_toNat_eq e);simp [h,this]
theorem Qg:∀ (l:List (Nat × DT)) (b:Option DT) (g:DT),l.foldl bst b=some g->b=some g \/ ∃ y ∈ l,y.2=g
 | [],b,g,h => .inl h
 | x :: r,b,g,h=>by
  rw [List.foldl_cons] at h
  rcases Qg r _ g h with h | ⟨y,hy,hg⟩
  ·cases b with
   | none =>
    simp only [bst,EW,Option.some.injEq] at h;exact .inr ⟨x,by simp,h⟩
   | some q =>
    simp only [bst,EW] at h;split at h
    ·simp only [Option.some.injEq] at h;exact .inr ⟨x,by simp,h⟩
    ·exact .inl h
  ·exact .inr ⟨y,by simp [hy],hg⟩
theorem lead_any {w:World} {o:Own} {D M pz ps pd p K B:Nat} {z:Am} {mine:BitVec 64} {has:List (Option DT)} (h:Qx w o D M pz ps pd p z mine has) (hr:z.BB = .stands mine has) (hp:Am.NP K B z) (hK:K+600<65536) (hB:B<=90000) :
  Calls prog 140 #[.pointer (some ⟨pz,0,none⟩), .pointer (some ⟨p,0,none⟩)] w (XL (KC D M) w o fun v w' o'=>Dn w' o' v (Ed (z.lead mine has).2)/\Bc w' o' D M pz ps pd (z.lead mine has).1):=by
 have hro:=hp.ok.ro;rw [show z.BN.BB=z.BB from rfl,hr] at hro;obtain ⟨Afl,hhl, -,hbs⟩:=hro;have hn3:z.n<=3:=hp.ok.n3;have hn1:1<=z.n:=hp.ok.n1;have hhl:has.length=z.n:=hhl;have Auh:=ae (h.node hr);have tN:=ae hr;obtain ⟨ML,hb,⟨mb,hps,hpo,hhas⟩,hs⟩:=h;obtain ⟨es,⟨hm,hmo⟩,hnd,hlt,hlen,hqs,hmem,hent⟩:=WN hhas;have Afn:Qr has=(BC 0 has).foldl (fun b x=>EW b (some x.2)) none:=Ll has 0 none;have AoF:=KF has 0;have Azs:es.length<=3:=by rw [hlen];exact Nat.le_trans (List.length_filter_le _ _) (by omega)
 have hlead:z.lead mine has=if 2*es.length<=z.n then (z,[]) else match Qr has with
  | none=>(z,[])
  | some p=>if (z.s.FO mine p.2).2=0 then (({ z with s:=(z.s.FO mine p.2).1,Ag:=min z.Ag p.2.length }:Am).count mine (List.replicate z.n (-1)) p.2.length false,z.BN.others fun _=>⟨4,mine,0,0,0,p.2⟩) else (({ z with s:=(z.s.FO mine p.2).1 }:Am).follow,[]):=by
  rw [hlen];rfl
 obtain ⟨R,hR⟩:∃ R,z.lead mine has=R:=⟨_,rfl⟩;rw [hR];rw [hlead] at hR;have dr:aj ai w o w.drew o:=(aj.refl ai w o).drew;have hq:=ae (PD z.n hn1 hn3);obtain ⟨⟨-,c1, -⟩, -⟩:=(hb.step dr id).cells;have cp:=ag (w:=w.drew) hps 1;simp only [ay,ax] at cp;have hmd:w.drew.heap[mb]?=some (.map (Bd 0 es).toArray es.length):=hm;have hS:=aI c1 (aI cp hmd);have hH:=ae (aI ML (aI hb (aI hps (aI hpo (aI hm (aI hmo (aI hs hhas)))))));have hE:=ae (aI hnd (aI hlt (aI hqs (aI hmem hent))));have hM:=ae (aI hbs (aI Afn AoF));have hPH:=ae hp;have AzD:=ae hhl;have rD:=ae hlen;have hI:(0:Int)<=(es.length:Int)/\(es.length:Int)<=3:=by omega
 obtain ⟨nn,hnn⟩:∃ n,z.n=n:=⟨_,rfl⟩;obtain ⟨L,hL⟩:∃ L,es.length=L:=⟨_,rfl⟩;rw [hnn] at hq c1 hS hn3 hn1;rw [hL] at hI Azs;rw [hL] at hR;have KI:=ae hR;have AlL:=ae hnn;have hLH:=ae hL;clear ML hb hps hpo hhas hs hm hmo hnd hlt hlen hqs hmem hent hbs Afn AoF hlead hR hr hp c1 cp hmd dr hhl hnn;have hd2:(nn / 2+1:Nat)=nn / 2+1:=rfl;go_enter func140,ntmps140;go_wp2_with fail;refine Aa (fun w'=>w'.cell? ⟨pz,1,none⟩=some (.int .i64 (nn:Int))/\w'.cell? ⟨p,1,none⟩=some (.map (some mb))/\w'.heap[mb]?=some (.map (Bd 0 es).toArray es.length)) (fun _=>true) (by kernel_rfl) hS (fun hHeld => ?_);refine tq 0 (h:=tq 1 (h:=tq 2 (h:=tq 3 (h:=tv 4 (.int .i64 (es.length:Int)) (hy:=fun w hSw=>by (try dsimp only at hSw);go_simp;rw [SQ hSw.2.2];simp [hL]) (h:=tq 5 (h:=tq 6 (h:=tq 7 (h:=tq 8 (h:=tO 9 (h:=?_))))))))));go_wp2_with fail;refine (hq.out _).mono ?_;rintro e w1 ⟨rfl,rfl⟩;go_wp2_with fail;refine ⟨fun _=>hHeld, ?_⟩;refine tq 10 (h:=tD (h:=?_));have dr:aj ai w o w.drew o:=(aj.refl ai w o).drew;obtain ⟨V,hV⟩:∃ V,w.drew=V:=⟨_,rfl⟩;rw [hV] at dr hS ⊢;have drH:=ae dr;obtain ⟨c1,cp,hmd⟩:=hS;clear hHeld dr hV
 by_cases AtQ:2*L<=nn
 ·have hlt:(L:Int)<(nn:Int) / 2+1:=by omega
  rw [if_pos (by rw [AlL.out];exact AtQ)] at KI;go_wp2_with fail;go_ret;exact ⟨_,o,rfl,drH.out.mono (fun _ h=>h.elim),by rw [<-KI.out];exact Dn.nil _ _,by rw [<-KI.out];exact Auh.out.step0 drH.out⟩
 ·have hlt:¬ (L:Int)<(nn:Int) / 2+1:=by omega
  rw [if_neg (by rw [AlL.out];exact AtQ)] at KI;obtain ⟨X,hX1,hX2⟩:=KT o w.heap.size (M+5);obtain ⟨ML,hb,hps,hpo,hm,hmo,hs,hhas⟩:=hH.out;obtain ⟨hnd,hls,hqs,hmem,hent⟩:=hE.out;have st1:=drH.out.alloc (.cells #[.pointer none] 258) (X,0);have bb1:=heap_alloc_new V (.cells [Value.pointer none].toArray 258);have ob1:=Au o V.heap.size (X,0);have hVs:=drH.out.size;obtain ⟨V1,hV1⟩:∃ V1,V.alloc (.cells #[.pointer none] 258)=V1:=⟨_,rfl⟩;have AvR:V.alloc (.cells [Value.pointer none].toArray 258)=V1:=hV1;rw [hV1] at st1;rw [AvR] at bb1;obtain ⟨bb,hbb⟩:∃ b,V.heap.size=b:=⟨_,rfl⟩;generalize Ak o V.heap.size (X,0)=o1 at *;rw [hbb] at bb1 ob1 hVs;have hm1:=(st1.block _ (au hm) id).trans hm;have hps1:=(st1.block _ (au hps) id).trans hps;have cp1:=ag hps1 1;simp only [ay,ax] at cp1;have hka:=ae (aS mb V1);have st2:=st1.alloc (.cells #[.map (some mb)] 204) (0,0);have k2:=(aj.refl ai V1 o1).alloc (.cells #[.map (some mb)] 204) (0,0);have hso:=WM (o:=Ak o1 V1.heap.size (0,0)) ((k2.block _ (au hm1) id).trans hm1) (heap_alloc_new V1 (.cells #[.map (some mb)] 204)) hnd (fun x hx=>by have:=hls x hx;have:=AzD.out;have:=AlL.out;omega) (by rw [hL];omega);have bb2:=(k2.block _ (au bb1) id).trans bb1;have ob2:=(k2.own _ (au bb1)).trans ob1;have Aaz:=ae hso;have hP:=ae (aI st2 (aI bb2 ob2));have hXH:=ae (aI hX1 (aI hX2 hVs));have hVH:=ae (aI hV1 hbb);have hnew:(Instr.alloc 258 true (.tuple #[])).run prog V = .ok (.pointer (some ⟨bb,0,none⟩)) V1:=by rw [<-hV1, <-hbb];kernel_rfl
  have AoM:=ae hnew;clear ML hb hps hpo hm hmo hs hhas hnd hls hqs hmem hent st1 bb1 ob1 hm1 hps1 st2 k2 hso bb2 ob2 hX1 hX2 hV1 AvR hbb hVs hnew
  go_wp2_with ((with_reducible apply AU);exact AoM.out;simp only [Act.put,GL,DL,lss])
  refine hka.out.mono ?_;rintro e w2 ⟨rfl,rfl⟩;go_wp2_with fail;refine Aaz.out.mono ?_;rintro e w3 ⟨v3,o3,rfl,hs3,q,hqp,hqo,hsl⟩;have hqe:=hE.out.2.2.1 q hqp hqo;have hql:q.length=L:=by rw [hqp.length_eq,List.length_map];exact hL
  have Aha:(BC 0 has).length=L:=by rw [<-hql,hqe,List.length_map]
  have Aee:=hP.out.1.trans hs3;have bb3:=(hs3.block _ (au hP.out.2.1) id).trans hP.out.2.1;have ob3:=(hs3.own _ (au hP.out.2.1)).trans hP.out.2.2;obtain ⟨qa,qc,rfl⟩:=Aq hsl;obtain ⟨sm,hsm⟩:∃ s,BC 0 has=s:=⟨_,rfl⟩;rw [hql] at hsl ⊢;rw [hsm] at hqe Aha;have hP3:=ae (aI Aee (aI bb3 (aI ob3 hsl)));have yV:=ae (aI hqe (aI hql (aI Aha hsm)));clear hs3 hqp hqo hqe hql Aha Aee bb3 ob3 hsl hsm hP Aaz hka AoM cp1 c1 cp hmd hq;go_wp2_with fail
  go_loopw [28] (fun i wr=>∃ (k:Nat) (oj:Own) (pv:Option Addr),k<=L/\i = .int .i64 k/\aj ai w o wr oj/\wr.heap[bb]?=some (.cells [Value.pointer pv].toArray 258 (0,0))/\oj bb=(X,0)/\JA wr oj ((sm.take k).foldl bst none) pv/\sH wr oj (.slice qa L qc) L (q.map fun n:Nat=>Value.int .i64 (n:Int))) (fun i _=>L - (intOf i).toNat)
  case atStart=>exact ⟨0,o3,none,by omega,rfl,hP3.out.1,hP3.out.2.1,hP3.out.2.2.1,rfl,hP3.out.2.2.2⟩
  case round =>
   clear hP3;obtain ⟨k,oj,pv,hk,rfl,hst,hbb,hob,Afn,hsl⟩:=hrel
   by_cases hlk:k<L
   ·obtain ⟨hqe,hql,Aha,hsm⟩:=yV.out;obtain ⟨x,hx⟩:∃ x,sm[k]?=some x:=⟨_,List.getElem?_eq_getElem (by omega)⟩;have hqk:q[k]?=some x.1:=by rw [hqe,List.getElem?_map,hx];rfl
    obtain ⟨kb,BeO,rfl,hkc,hkl,hko⟩:=hsl.cell k (x := .int .i64 (x.1:Int)) (by rw [List.getElem?_map,hqk];rfl);obtain ⟨ML,hb,hps,hpo,hm,hmo,hs,hhas⟩:=hH.out;obtain ⟨hnd,hls,hqs,hmem,hent⟩:=hE.out;obtain ⟨y,hy,hyx,hyc,hyL⟩:=hmem x.1 x.2 (by rw [hsm];exact List.mem_of_getElem? hx);have hxm:some x.2 ∈ has:=by
     have hx':(x.1,x.2) ∈ BC 0 has:=by rw [hsm];exact List.mem_of_getElem? hx
     obtain ⟨kk, -,hkk⟩:=(Fa has 0 x.1 x.2).1 hx';exact List.mem_of_getElem? hkk
    have hlo:=hM.out.1 x.2 hxm;have hm3:=(hst.block _ (au hm) id).trans hm;have hlk2:=SL hm3 hnd hy;rw [hyx] at hlk2;have AtW:=(hst.block _ (au hps) id).trans hps;have cp3:=ag AtW 1;simp only [ay,ax] at cp3;have AnD:=hyL.step hst id;obtain ⟨la,lc,hlv⟩:=AnD.form;obtain ⟨xl,hxl⟩:∃ n,x.2.2.length=n:=⟨_,rfl⟩;have hxI:(0:Int)<=(xl:Int)/\(xl:Int)<=256:=by have:=hlo.n;omega
    have hxN:xl<=256:=by omega
    rw [hxl] at hlv;rw [hlv] at hlk2 AnD;rw [hyc] at hlk2;have pal:=AB (P:=prog) wr 203 _ Zn;have pst:=Agu wr (x.2.1.toNat:Int) la xl lc;have k2:=(aj.refl ai wr oj).alloc (.cells [.int .u64 (x.2.1.toNat:Int), .slice la xl lc].toArray 203) (0,0);have pb:=heap_alloc_new wr (.cells [.int .u64 (x.2.1.toNat:Int), .slice la xl lc].toArray 203);have po:=Au oj wr.heap.size (0,0);generalize Ak oj wr.heap.size (0,0)=o4 at *;obtain ⟨W4,hW4⟩:∃ W4,wr.alloc (.cells [.int .u64 (x.2.1.toNat:Int), .slice la xl lc].toArray 203)=W4:=⟨_,rfl⟩;rw [hW4] at pst k2 pb;have Aei:=(k2.block _ (au hbb) id).trans hbb;have Afw:=(k2.own _ (au hbb)).trans hob;have Aqk:wr.heap.size ≠ bb:=by have:=au hbb;omega
    obtain ⟨pp,hpp⟩:∃ b,wr.heap.size=b:=⟨_,rfl⟩;rw [hpp] at pst pb po pal Aqk;have Ahl:=Afn.step k2 id;have AfT:=hsl.step k2 id;have st4:=hst.trans k2;have hL4:=AnD.step k2 id;have d1:=ag (w:=W4.drew) Aei 0;have d2:=ag (w:=W4.drew) pb 0;have d3:=ag (w:=W4.drew) pb 1;have fb:=Ap Aei 0;simp only [ay,ax] at d1 d2 d3;have hS4:=aI d1 (aI d2 d3);have AiM:=ae pal;have AiJ:=ae pst;have Aga:=ae hlk2;have hG:=ae (aI st4 (aI Aei (aI Afw (aI AfT (aI pb (aI po hL4))))));have hxH:=ae (aI hx (aI hxl Aqk));clear hqe hql Aha hsm hqk ML hb hps hpo hm hmo hs hhas hnd hls hqs hmem hent hy hyx hyc hyL hxm hlo hm3 hlk2 AtW AnD hlv pal pst k2 pb po Aei Afw Aqk AfT st4 hL4 d1 d2 d3 hst hbb hob Afn hsl hkl hko hW4 hpp hx hxl
    cases hfo:(sm.take k).foldl bst none with
    | none =>
     rw [hfo] at Ahl;obtain rfl:pv=none:=Ahl;obtain ⟨st4,Aei,Afw,AfT,pb,po,hL4⟩:=hG.out;have sF:=st4.drew.setCell (a:=⟨bb,0,none⟩) (.pointer (some ⟨pp,0,none⟩)) (.inr hXH.out.2.2);have sK:=((aj.refl (ak X) W4 o4).drew).setCell (a:=⟨bb,0,none⟩) (.pointer (some ⟨pp,0,none⟩)) (.inl (by show (o4 bb).1=X;rw [Afw]));have bF:=Ai (i:=0) (.pointer (some ⟨pp,0,none⟩)) (show W4.drew.heap[bb]?=_ from Aei);have nX0:¬ ak X 0:=fun h=>by have:=hXH.out.1;unfold ak at h;omega
     have hbF:JA (W4.drew.setCell ⟨bb,0,none⟩ (.pointer (some ⟨pp,0,none⟩))) o4 (some x.2) (some ⟨pp,0,none⟩):=
      ⟨pp, .slice la xl lc,rfl,(Below.heap_setCell W4.drew ⟨bb,0,none⟩ (.pointer (some ⟨pp,0,none⟩)) pp hxH.out.2.2).trans pb,by rw [po],hL4.step sK nX0⟩
     have Alr:=AfT.step sK nX0;have Aig:(sm.take (k+1)).foldl bst none=some x.2:=by
      rw [NU hxH.out.1,hfo];rfl
     have Adj:=ae (aI sF (aI bF (aI Afw (aI hbF (aI Alr Aig)))));clear st4 Aei Afw AfT pb po hL4 sF sK bF nX0 hbF Alr Aig
     go_wp2_with (first
      | ((with_reducible apply DN);exact Aga.out;simp only [Act.put,GL,DL,lss])
      | ((with_reducible apply AU);exact AiM.out;simp only [Act.put,GL,DL,lss])
      | ((with_reducible apply AC);exact AiJ.out;simp only [Act.put]))
     refine Aa (fun w'=>w'.cell? ⟨bb,0,none⟩=some (.pointer none)/\w'.cell? ⟨pp,0,none⟩=some (.int .u64 (x.2.1.toNat:Int))/\w'.cell? ⟨pp,1,none⟩=some (.slice la xl lc)) (fun _=>true) (by kernel_rfl) hS4 (fun hHeld => ?_);refine tq 0 (h:=tq 1 (h:=tq 2 (h:=ts 3 (h:=ts 4 (h:=ts 5 (h:=ts 6 (h:=ts 7 (h:=ts 8 (h:=ts 9 (h:=ts 10 (h:=ts 11 (h:=ts 12 (h:=ts 13 (h:=?_))))))))))))));refine ts 14 (h:=ts 15 (h:=ts 16 (h:=ts 17 (h:=tq 18 (h:=tD (h:=?_))))));obtain ⟨d1,d2,d3⟩:=hS4;clear hHeld;go_wp2_with fail;go_roundw
     case rel=>exact ⟨k+1,o4,_,by omega,by go_num,Adj.out.1,Adj.out.2.1,Adj.out.2.2.1,by rw [Adj.out.2.2.2.2.2];exact Adj.out.2.2.2.1,Adj.out.2.2.2.2.1⟩
     case measure=>simp [intOf];omega
    | some g =>
     rw [hfo] at Ahl;obtain ⟨gp,glv,rfl,hgb,hgo,hgL⟩:=Ahl;obtain ⟨ga,gc,rfl⟩:=hgL.form;have hgl:g.2.length<=256:=by
      rcases Qg _ _ _ hfo with h | ⟨y,hy,rfl⟩
      ·cases h
      ·have hy':(y.1,y.2) ∈ BC 0 has:=by rw [yV.out.2.2.2];exact List.mem_of_mem_take hy
       obtain ⟨kk, -,hkk⟩:=(Fa has 0 y.1 y.2).1 hy';exact (hM.out.1 y.2 (List.mem_of_getElem? hkk)).n
     obtain ⟨gl,AcJ⟩:∃ n,g.2.length=n:=⟨_,rfl⟩;have hgI:(0:Int)<=(gl:Int)/\(gl:Int)<=256:=by omega
     have e1:=ag (w:=W4.drew) hgb 0;have e2:=ag (w:=W4.drew) hgb 1;simp only [ay,ax] at e1 e2;have hbt:=Xx (w:=W4.drew) (o:=o4) x.2.1.toNat g.1.toNat xl gl hxN (by omega);rw [show (decide (g.1.toNat<x.2.1.toNat) || (decide (x.2.1.toNat=g.1.toNat) && decide (gl<xl)))=Jw x.2 g by rw [Xy,AcJ,hxH.out.2.1]] at hbt;rw [AcJ] at e2;have hS5:=aI hS4.1 (aI hS4.2.1 (aI hS4.2.2 (aI e1 e2)));have hGB:=ae (aI hgb (aI hgo (aI hgL AcJ)));have Aih:=ae hbt;clear hgb hgo hgL hgl AcJ e1 e2 hbt
     cases hbm:Jw x.2 g with
     | true =>
      rw [hbm] at Aih
      go_wp2_with (first
       | ((with_reducible apply DN);exact Aga.out;simp only [Act.put,GL,DL,lss])
       | ((with_reducible apply AU);exact AiM.out;simp only [Act.put,GL,DL,lss])
       | ((with_reducible apply AC);exact AiJ.out;simp only [Act.put]))
      refine Aa (fun w'=>w'.cell? ⟨bb,0,none⟩=some (.pointer (some ⟨gp,0,none⟩))/\w'.cell? ⟨pp,0,none⟩=some (.int .u64 (x.2.1.toNat:Int))/\w'.cell? ⟨pp,1,none⟩=some (.slice la xl lc)/\w'.cell? ⟨gp,0,none⟩=some (.int .u64 (g.1.toNat:Int))/\w'.cell? ⟨gp,1,none⟩=some (.slice ga gl gc)) (fun _=>true) (by kernel_rfl) hS5 (fun hHeld => ?_);refine tq 0 (h:=tq 1 (h:=tq 2 (h:=tq 3 (h:=tq 4 (h:=tq 5 (h:=tq 6 (h:=tq 7 (h:=tq 8 (h:=tq 9 (h:=tq 10 (h:=tq 11 (h:=tq 12 (h:=tq 13 (h:=?_))))))))))))));refine tq 14 (h:=tq 15 (h:=tq 16 (h:=tO 17 (h:=?_))));go_wp2_with fail;refine Aih.out.mono ?_;rintro e W5 ⟨v5,o5,rfl,hs5,rfl⟩;obtain ⟨st4,Aei,Afw,AfT,pb,po,hL4⟩:=hG.out;have AeG:=(hs5.block _ (au Aei) id).trans Aei;have Afv:=(hs5.own _ (au Aei)).trans Afw;have pb5:=(hs5.block _ (au pb) id).trans pb;have po5:=(hs5.own _ (au pb)).trans po;have k5:=(aj.refl ai W4 o4).drew.trans hs5;have gb5:=(k5.block gp (au hGB.out.1) id).trans hGB.out.1;have d1:=ag AeG 0;have d2:=ag pb5 0;have d3:=ag pb5 1;have d4:=ag gb5 0;have d5:=ag gb5 1;have fb5:=Ap AeG 0;simp only [ay,ax] at d1 d2 d3 d4 d5;rw [hGB.out.2.2.2] at d5;have hS6:=aI d1 (aI d2 (aI d3 (aI d4 d5)));have hG5:=ae (aI (st4.trans k5) (aI AeG (aI Afv (aI (AfT.step k5 id) (aI pb5 (aI po5 (aI (hL4.step k5 id) (aI gb5 (aI ((k5.own gp (au hGB.out.1)).trans (by rfl)) (hGB.out.2.2.1.step k5 id))))))))));clear hs5 st4 Aei Afw AfT pb po hL4 AeG Afv pb5 po5 k5 gb5 d2 d3 d4 d5 hHeld;go_wp2_with fail;refine ⟨fun _=>hS6, ?_⟩;refine tq 18 (h:=tD (h:=?_));clear hS6;obtain ⟨st5,AeG,Afv,Als,pb5,po5,hL5,gb5,go5,gL5⟩:=hG5.out;have sF:=st5.setCell (a:=⟨bb,0,none⟩) (.pointer (some ⟨pp,0,none⟩)) (.inr hXH.out.2.2);have sK:=(aj.refl (ak X) W5 o5).setCell (a:=⟨bb,0,none⟩) (.pointer (some ⟨pp,0,none⟩)) (.inl (by show (o5 bb).1=X;rw [Afv]));have bF:=Ai (i:=0) (.pointer (some ⟨pp,0,none⟩)) AeG;have nX0:¬ ak X 0:=fun h=>by have:=hXH.out.1;unfold ak at h;omega
      have hbF:JA (W5.setCell ⟨bb,0,none⟩ (.pointer (some ⟨pp,0,none⟩))) o5 (some x.2) (some ⟨pp,0,none⟩):=
       ⟨pp, .slice la xl lc,rfl,(Below.heap_setCell W5 ⟨bb,0,none⟩ (.pointer (some ⟨pp,0,none⟩)) pp hxH.out.2.2).trans pb5,by rw [po5],hL5.step sK nX0⟩
      have Alr:=Als.step sK nX0;have Aig:(sm.take (k+1)).foldl bst none=some x.2:=by
       rw [NU hxH.out.1,hfo];show (if Jw x.2 g then some x.2 else some g)=_
       rw [hbm];rfl
      have Adj:=ae (aI sF (aI bF (aI Afv (aI hbF (aI Alr Aig)))));clear st5 AeG Afv Als pb5 po5 hL5 sF sK bF nX0 hbF Alr Aig gb5 go5 gL5;go_wp2_with fail;go_roundw
      case rel=>exact ⟨k+1,o5,_,by omega,by go_num,Adj.out.1,Adj.out.2.1,Adj.out.2.2.1,by rw [Adj.out.2.2.2.2.2];exact Adj.out.2.2.2.1,Adj.out.2.2.2.2.1⟩
      case measure=>simp [intOf];omega
     | false =>
      rw [hbm] at Aih
      go_wp2_with (first
       | ((with_reducible apply DN);exact Aga.out;simp only [Act.put,GL,DL,lss])
       | ((with_reducible apply AU);exact AiM.out;simp only [Act.put,GL,DL,lss])
       | ((with_reducible apply AC);exact AiJ.out;simp only [Act.put]))
      refine Aa (fun w'=>w'.cell? ⟨bb,0,none⟩=some (.pointer (some ⟨gp,0,none⟩))/\w'.cell? ⟨pp,0,none⟩=some (.int .u64 (x.2.1.toNat:Int))/\w'.cell? ⟨pp,1,none⟩=some (.slice la xl lc)/\w'.cell? ⟨gp,0,none⟩=some (.int .u64 (g.1.toNat:Int))/\w'.cell? ⟨gp,1,none⟩=some (.slice ga gl gc)) (fun _=>true) (by kernel_rfl) hS5 (fun hHeld => ?_);refine tq 0 (h:=tq 1 (h:=tq 2 (h:=tq 3 (h:=tq 4 (h:=tq 5 (h:=tq 6 (h:=tq 7 (h:=tq 8 (h:=tq 9 (h:=tq 10 (h:=tq 11 (h:=tq 12 (h:=tq 13 (h:=?_))))))))))))));refine tq 14 (h:=tq 15 (h:=tq 16 (h:=tO 17 (h:=?_))));go_wp2_with fail;refine Aih.out.mono ?_;rintro e W5 ⟨v5,o5,rfl,hs5,rfl⟩;obtain ⟨st4,Aei,Afw,AfT,pb,po,hL4⟩:=hG.out;have AeG:=(hs5.block _ (au Aei) id).trans Aei;have Afv:=(hs5.own _ (au Aei)).trans Afw;have pb5:=(hs5.block _ (au pb) id).trans pb;have po5:=(hs5.own _ (au pb)).trans po;have k5:=(aj.refl ai W4 o4).drew.trans hs5;have gb5:=(k5.block gp (au hGB.out.1) id).trans hGB.out.1;have d1:=ag AeG 0;have d2:=ag pb5 0;have d3:=ag pb5 1;have d4:=ag gb5 0;have d5:=ag gb5 1;have fb5:=Ap AeG 0;simp only [ay,ax] at d1 d2 d3 d4 d5;rw [hGB.out.2.2.2] at d5;have hS6:=aI d1 (aI d2 (aI d3 (aI d4 d5)));have hG5:=ae (aI (st4.trans k5) (aI AeG (aI Afv (aI (AfT.step k5 id) (aI pb5 (aI po5 (aI (hL4.step k5 id) (aI gb5 (aI ((k5.own gp (au hGB.out.1)).trans (by rfl)) (hGB.out.2.2.1.step k5 id))))))))));clear hs5 st4 Aei Afw AfT pb po hL4 AeG Afv pb5 po5 k5 gb5 d2 d3 d4 d5 hHeld;go_wp2_with fail;refine ⟨fun _=>hS6, ?_⟩;refine tq 18 (h:=tD (h:=?_));clear hS6;obtain ⟨st5,AeG,Afv,Als,pb5,po5,hL5,gb5,go5,gL5⟩:=hG5.out;have Aig:(sm.take (k+1)).foldl bst none=some g:=by
       rw [NU hxH.out.1,hfo];show (if Jw x.2 g then some x.2 else some g)=_
       rw [hbm];rfl
      have hbF:JA W5 o5 (some g) (some ⟨gp,0,none⟩):=⟨gp,_,rfl,gb5,by rw [go5];exact hGB.out.2.1,gL5⟩;have Adj:=ae (aI st5 (aI AeG (aI Afv (aI hbF (aI Als Aig)))));clear st5 AeG Afv Als pb5 po5 hL5 hbF Aig gb5 go5 gL5;go_wp2_with fail;go_roundw
      case rel=>exact ⟨k+1,o5,_,by omega,by go_num,Adj.out.1,Adj.out.2.1,Adj.out.2.2.1,by rw [Adj.out.2.2.2.2.2];exact Adj.out.2.2.2.1,Adj.out.2.2.2.2.1⟩
      case measure=>simp [intOf];omega
   ·have hkL:k=L:=by omega
    subst hkL;obtain ⟨hqe,hql,Aha,hsm⟩:=yV.out;rw [List.take_of_length_le (by omega)] at Afn;have hbp:Qr has=sm.foldl bst none:=by rw [hM.out.2.1,hsm]
    have hne:sm ≠ []:=fun h=>by rw [h] at Aha;simp at Aha;omega
    obtain ⟨g,hg⟩:=Option.isSome_iff_exists.1 (VK hne);rw [hg] at Afn hbp;rw [hbp] at KI;simp only at KI;obtain ⟨gp,glv,rfl,hgb,hgo,hgL⟩:=Afn;have hgm:some g ∈ has:=by
     rcases Qg _ _ _ hg with h | ⟨y,hy,rfl⟩
     ·cases h
     ·have hy':(y.1,y.2) ∈ BC 0 has:=by rw [hsm];exact hy
      obtain ⟨kk, -,hkk⟩:=(Fa has 0 y.1 y.2).1 hy';exact List.mem_of_getElem? hkk
    have AdR:=hM.out.1 g hgm;obtain ⟨ML,hb,hps,hpo,hm,hmo,hs,hhas⟩:=hH.out;have hsmall:=En.small AdR (by omega);have dr:aj ai wr oj wr.drew oj:=(aj.refl ai wr oj).drew;have st':=hst.trans dr;have had:=Pe ML (hs.step0 st') hPH.out.sp mine (hgL.step dr id) hsmall;have hfit:=KW hPH.out.sp hK hPH.out.kok mine g.2;obtain ⟨ga,gc,rfl⟩:=hgL.form;obtain ⟨gl,AcJ⟩:∃ n,g.2.length=n:=⟨_,rfl⟩;have hgI:(0:Int)<=(gl:Int)/\(gl:Int)<=256:=by have:=AdR.n;omega
    obtain ⟨⟨-, -,c2, -⟩, -⟩:=(hb.step st' id).cells;have cm:=ag ((st'.block _ (au hps) id).trans hps) 0;have cb:=ag (w:=wr.drew) hbb 0;have cg:=ag (w:=wr.drew) hgb 1;simp only [ay,ax] at cm cb cg;rw [AcJ] at cg had;have hS:=aI c2 (aI cm (aI cb cg));have hG:=ae (aI st' (aI hbb (aI hob (aI hgb (aI hgo (aI (hgL.step dr id) (aI AdR AcJ)))))));have Ako:=ae had;clear hqe hql Aha hsm hbp hne hg hgm AdR ML hb hps hpo hm hmo hs hhas hsmall dr st' had hgL c2 cm cb cg hgb hgo hst hbb hob hsl yV;obtain ⟨Q,hQ⟩:∃ Q,z.s.FO mine g.2=Q:=⟨_,rfl⟩;simp only [hQ] at Ako hfit KI
    rcases hfit with ⟨s',er,hf2,hf1⟩ | ⟨hf0,s',hf2,hf3,hf4⟩
    ·subst hf2;have hz1:(er == 0)=false:=by simpa using hf1
     have hz2:(er != 0)=true:=by simpa using hf1
     rw [if_neg (show ¬ (s',er).2=0 from hf1)] at KI;go_wp2_with fail;refine Aa (fun w'=>w'.cell? ⟨pz,2,none⟩=some (.pointer (some ⟨ps,0,none⟩))/\w'.cell? ⟨p,0,none⟩=some (.int .u64 (mine.toNat:Int))/\w'.cell? ⟨bb,0,none⟩=some (.pointer (some ⟨gp,0,none⟩))/\w'.cell? ⟨gp,1,none⟩=some (.slice ga gl gc)) (fun _=>true) (by kernel_rfl) hS (fun hHeld => ?_);refine tq 0 (h:=tq 1 (h:=tq 2 (h:=tq 3 (h:=tq 4 (h:=tq 5 (h:=tq 6 (h:=tq 7 (h:=tq 8 (h:=tq 9 (h:=tq 10 (h:=tq 11 (h:=tO 12 (h:=?_)))))))))))));go_wp2_with fail;refine Ako.out.mono ?_;rintro e W6 ⟨v6,o6,rfl,hs6,rfl,pW⟩;obtain ⟨st',hbb,hob,hgb,hgo,hgL,AdR,AcJ⟩:=hG.out;obtain ⟨ML,hb,hps,hpo,hm,hmo,hs,hhas⟩:=hH.out;have nZ:¬ qG (M+1) (M+2) (M+3) D (M+4):=KC.WZ ML.1 ML.2;have n0:¬ qG (M+1) (M+2) (M+3) D 0:=fun h=>by unfold qG at h;have:=ML.2;omega
     have nX:¬ qG (M+1) (M+2) (M+3) D X:=fun h=>by unfold qG at h;have:=hXH.out.1;have:=ML.1;omega
     have hb6:=(hb.step st' id).step hs6 nZ;have ps6:=(hs6.block p (Nat.lt_of_lt_of_le (au hps) st'.size) (by rw [st'.own p (au hps),hpo];exact nZ)).trans ((st'.block _ (au hps) id).trans hps);have po6:=(hs6.own p (Nat.lt_of_lt_of_le (au hps) st'.size)).trans ((st'.own p (au hps)).trans hpo);have bb6:=(hs6.block bb (au hbb) (by rw [hob];exact nX)).trans hbb;have ob6:=(hs6.own bb (au hbb)).trans hob;have gb6:=(hs6.block gp (au hgb) (by rw [hgo];exact n0)).trans hgb;have go6:(o6 gp).1=0:=by rw [hs6.own gp (au hgb)];exact hgo
     have gL6:=hgL.step hs6 n0;have hh6:=(hhas.step st' id id).step hs6 nZ n0;have st6:=(st'.mono (fun _ h=>h.elim)).trans (hs6.mono KC.in4);obtain ⟨⟨-, -,c2, -⟩, -⟩:=hb6.cells;have cm:=ag ps6 0;have cb:=ag bb6 0;have cg:=ag gb6 1;simp only [ay,ax] at cm cb cg;rw [AcJ] at cg;have hS6:=aI c2 (aI cm (aI cb cg));have hG6:=ae (aI st6 (aI hb6 (aI ps6 (aI po6 (aI bb6 (aI ob6 (aI gb6 (aI go6 (aI gL6 (aI hh6 (aI pW (aI AdR (aI AcJ ML)))))))))))));clear hs6 pW st' hbb hob hgb hgo hgL AdR AcJ ML hb hps hpo hm hmo hs hhas nZ n0 nX hb6 ps6 po6 bb6 ob6 gb6 go6 gL6 hh6 st6 c2 cm cb cg hHeld;go_wp2_with fail;refine ⟨fun _=>hS6, ?_⟩;refine tq 13 (h:=tD (h:=?_));clear hS6;obtain ⟨st6,hb6,ps6,po6,bb6,ob6,gb6,go6,gL6,hh6,pW,AdR,AcJ,ML⟩:=hG6.out;have hnd:Bc W6 o6 D M pz ps pd { z with s:=s' }:=⟨ML,_,hb6,(by show IE _ _ _ _ z.BB;rw [tN.out];exact ⟨p,rfl,mb,ps6,po6,hh6⟩),pW⟩;have hfo:=ae (FD hnd);clear st6 hb6 ps6 po6 bb6 ob6 gb6 go6 gL6 hh6 pW AdR AcJ ML hnd;go_wp2_with fail;refine hfo.out.mono ?_;rintro e w7 ⟨v7,o7,rfl,hs7,rfl,hn7⟩;have hF:=ae (aI (hG6.out.1.trans (hs7.mono (fun k h=>by cases h;exact KC.own))) hn7);clear hs7 hn7;go_wp2_with fail;go_ret;exact ⟨_,o7,rfl,hF.out.1,by rw [<-KI.out];exact Dn.nil _ _,by rw [<-KI.out];exact hF.out.2⟩
    ·subst hf2;rw [if_pos rfl] at KI;go_wp2_with fail;refine Aa (fun w'=>w'.cell? ⟨pz,2,none⟩=some (.pointer (some ⟨ps,0,none⟩))/\w'.cell? ⟨p,0,none⟩=some (.int .u64 (mine.toNat:Int))/\w'.cell? ⟨bb,0,none⟩=some (.pointer (some ⟨gp,0,none⟩))/\w'.cell? ⟨gp,1,none⟩=some (.slice ga gl gc)) (fun _=>true) (by kernel_rfl) hS (fun hHeld => ?_);refine tq 0 (h:=tq 1 (h:=tq 2 (h:=tq 3 (h:=tq 4 (h:=tq 5 (h:=tq 6 (h:=tq 7 (h:=tq 8 (h:=tq 9 (h:=tq 10 (h:=tq 11 (h:=tO 12 (h:=?_)))))))))))));go_wp2_with fail;refine Ako.out.mono ?_;rintro e W6 ⟨v6,o6,rfl,hs6,rfl,pW⟩;obtain ⟨st',hbb,hob,hgb,hgo,hgL,AdR,AcJ⟩:=hG.out;obtain ⟨ML,hb,hps,hpo,hm,hmo,hs,hhas⟩:=hH.out;have nZ:¬ qG (M+1) (M+2) (M+3) D (M+4):=KC.WZ ML.1 ML.2;have n0:¬ qG (M+1) (M+2) (M+3) D 0:=fun h=>by unfold qG at h;have:=ML.2;omega
     have nX:¬ qG (M+1) (M+2) (M+3) D X:=fun h=>by unfold qG at h;have:=hXH.out.1;have:=ML.1;omega
     have hb6:=(hb.step st' id).step hs6 nZ;have ps6:=(hs6.block p (Nat.lt_of_lt_of_le (au hps) st'.size) (by rw [st'.own p (au hps),hpo];exact nZ)).trans ((st'.block _ (au hps) id).trans hps);have po6:=(hs6.own p (Nat.lt_of_lt_of_le (au hps) st'.size)).trans ((st'.own p (au hps)).trans hpo);have bb6:=(hs6.block bb (au hbb) (by rw [hob];exact nX)).trans hbb;have ob6:=(hs6.own bb (au hbb)).trans hob;have gb6:=(hs6.block gp (au hgb) (by rw [hgo];exact n0)).trans hgb;have go6:(o6 gp).1=0:=by rw [hs6.own gp (au hgb)];exact hgo
     have gL6:=hgL.step hs6 n0;have hh6:=(hhas.step st' id id).step hs6 nZ n0;have st6:=(st'.mono (fun _ h=>h.elim)).trans (hs6.mono KC.in4);obtain ⟨⟨-, -,c2, -⟩, -⟩:=hb6.cells;have cm:=ag ps6 0;have cb:=ag bb6 0;have cg:=ag gb6 1;simp only [ay,ax] at cm cb cg;rw [AcJ] at cg;have hS6:=aI c2 (aI cm (aI cb cg));have hG6:=ae (aI st6 (aI hb6 (aI ps6 (aI po6 (aI bb6 (aI ob6 (aI gb6 (aI go6 (aI gL6 (aI hh6 (aI pW (aI AdR (aI AcJ ML)))))))))))));clear hs6 pW st' hbb hob hgb hgo hgL AdR AcJ ML hb hps hpo hm hmo hs hhas nZ n0 nX hb6 ps6 po6 bb6 ob6 gb6 go6 gL6 hh6 st6 c2 cm cb cg hHeld;go_wp2_with fail;refine ⟨fun _=>hS6, ?_⟩;refine tq 13 (h:=tD (h:=?_));clear hS6;obtain ⟨V,hV⟩:∃ V,W6.drew=V:=⟨_,rfl⟩;have kV:aj ai W6 o6 V o6:=by rw [<-hV];exact (aj.refl ai W6 o6).drew
     obtain ⟨st6,hb6,ps6,po6,bb6,ob6,gb6,go6,gL6,hh6,pW,AdR,AcJ,ML⟩:=hG6.out;have Agf:∀ W O,aj ai V o6 W O->W.cell? ⟨p,0,none⟩=some (.int .u64 (mine.toNat:Int))/\W.cell? ⟨pz,1,none⟩=some (.int .i64 (nn:Int))/\W.cell? ⟨bb,0,none⟩=some (.pointer (some ⟨gp,0,none⟩))/\W.cell? ⟨gp,1,none⟩=some (.slice ga gl gc):=by
      intro W O hJ;have hJ:=kV.trans hJ;obtain ⟨⟨-,c1, -⟩, -⟩:=(hb6.step hJ id).cells;have cm:=ag ((hJ.block _ (au ps6) id).trans ps6) 0;have cb:=ag ((hJ.block _ (au bb6) id).trans bb6) 0;have cg:=ag ((hJ.block _ (au gb6) id).trans gb6) 1;simp only [ay,ax] at cm cb cg;rw [AcJ] at cg;rw [AlL.out] at c1;exact ⟨cm,c1,cb,cg⟩
     have hSH:=ae Agf;have hS7:=Agf V o6 (aj.refl _ _ _);rw [<-hV] at hS7;have hVz:w.heap.size<=V.heap.size:=Nat.le_trans st6.size kV.size;have hKV:=ae (aI kV hVz);clear Agf st6 hb6 ps6 po6 bb6 ob6 gb6 go6 gL6 hh6 pW AdR AcJ ML kV hVz;go_wp2_with fail;refine Jd (fun a0 a' w'=>∃ (vl lb mr:Nat) (oF:Own) (y1 y2 y3 y4 y5 y6 y7 y8 y9 y10 y11 y12 y13 y14 y15 y16 y17:Value),a'=Act.puts a0 [74,75,76,77,78,79,80,81,82,83,84,85,86,87,88,89,90,9] [y1,y2,y3,y4,y5,y6,y7,y8,y9,y10,y11,y12,y13,y14,y15,y16,y17, .pointer (some ⟨vl,0,none⟩)]/\(V.heap.size<=vl/\V.heap.size<=lb/\V.heap.size<=mr/\lb ≠ mr/\vl ≠ lb/\vl ≠ mr)/\w'.heap[vl]?=some (.cells [Value.pointer (some ⟨lb,0,none⟩)].toArray 135 (0,0))/\w'.heap[lb]?=some (.cells [Value.int .u64 (mine.toNat:Int), .slice (some ⟨mr,0,none⟩) nn nn, .int .i64 (gl:Int), .bool false].toArray 142 (0,0))/\w'.heap[mr]?=some (.cells (ivs (List.replicate nn (-1))).toArray 3 (0,0))/\(oF vl).1=0/\aj ai V o6 w' oF) ?_ ?_
     ·refine Aa (fun w'=>w'.cell? ⟨p,0,none⟩=some (.int .u64 (mine.toNat:Int))/\w'.cell? ⟨pz,1,none⟩=some (.int .i64 (nn:Int))/\w'.cell? ⟨bb,0,none⟩=some (.pointer (some ⟨gp,0,none⟩))/\w'.cell? ⟨gp,1,none⟩=some (.slice ga gl gc)) (fun _=>true) (by kernel_rfl) hS7 (fun hHeld => ?_);rw [hV] at hHeld ⊢;have hJ:aj ai V o6 V o6:=aj.refl _ _ _;refine tn 0 (h:=tn 1 (h:=tn 2 (h:=tn 3 (h:=tn 5 (h:=tn 6 (h:=tn 7 (h:=tn 8 (h:=tn 10 (h:=tn 11 (h:=tn 12 (h:=tn 13 (h:=tn 14 (h:=?_)))))))))))));refine Gm (i:=4) (j:=17) rfl rfl (by kernel_rfl) ?_ ?_
      ·obtain ⟨rb,AgB⟩:∃ b,V.heap.size=b:=⟨_,rfl⟩;have AuW:V.heap.size<=rb:=by rw [<-AgB];exact hJ.size
       have Adu:=(aj.refl ai V o6).alloc (.cells [Value.int .i64 (-1)].toArray 3) (0,0);have Ahd:=heap_alloc_new V (.cells [Value.int .i64 (-1)].toArray 3);obtain ⟨v21,hw2⟩:∃ x,V.alloc (.cells [Value.int .i64 (-1)].toArray 3)=x:=⟨_,rfl⟩;obtain ⟨p21,ho2⟩:∃ x,Ak o6 V.heap.size (0,0)=x:=⟨_,rfl⟩;rw [hw2,ho2] at Adu;rw [hw2] at Ahd;rw [AgB] at Ahd ho2;have hrun:(Instr.buildSlice 53 1 #[(0, .int .i64 (-1))]).run prog V = .ok (.slice (some ⟨rb,0,none⟩) 1 1) v21:=by rw [<-hw2, <-AgB];exact XU V
       have Aax:=ae hrun;have hrb:=Ahd;have hJ:=hJ.trans Adu;have hS:=hSH.out _ _ hJ;clear hrun Ahd Adu hw2 ho2 AgB;refine BO #[(0, .int .i64 (-1))] rfl Aax.out ?_;refine wpList_nil ?_;simp only [Act.put,GL,DL,lss];refine ⟨fun _=>hS, ?_⟩;refine Gm (i:=9) (j:=17) rfl rfl (by kernel_rfl) ?_ ?_
       ·have crb:=ag hrb 0;simp only [ay] at crb;have hrp:=ae (Ls (o:=p21) nn hn1 hn3 crb (au hrb));clear crb;go_wp2_with fail;refine hrp.out.mono ?_;rintro e v22 ⟨x22,p22,rfl,AeK,rfl,AfX,AhU⟩;obtain ⟨mr,Adz⟩:∃ b,v21.heap.size=b:=⟨_,rfl⟩;have AgO:V.heap.size<=mr:=by rw [<-Adz];exact hJ.size
        have AjE:rb ≠ mr:=by have:=au hrb;rw [<-Adz];omega
        rw [Adz] at AfX AhU;have hrb:=(AeK.block _ (au hrb) id).trans hrb;have hmr:=AfX;have hJ:=hJ.trans AeK;have hS:=hSH.out _ _ hJ;clear AeK AfX hrp AhU;rw [Adz];clear Adz;go_wp2_with fail;refine ⟨fun _=>hS, ?_⟩;refine tn 15 (h:=?_);refine Gm (i:=16) (j:=17) rfl rfl (by kernel_rfl) ?_ ?_
        ·obtain ⟨lb,Aca⟩:∃ b,v22.heap.size=b:=⟨_,rfl⟩;have Agc:V.heap.size<=lb:=by rw [<-Aca];exact hJ.size
         have Ahf:rb ≠ lb:=by have:=au hrb;rw [<-Aca];omega
         have Adw:mr ≠ lb:=by have:=au hmr;rw [<-Aca];omega
         have Ack:=(aj.refl ai v22 p22).alloc (.cells [Value.int .u64 (mine.toNat:Int), .slice (some ⟨mr,0,none⟩) nn nn, .int .i64 (gl:Int), .bool false].toArray 142) (0,0);have AdA:=heap_alloc_new v22 (.cells [Value.int .u64 (mine.toNat:Int), .slice (some ⟨mr,0,none⟩) nn nn, .int .i64 (gl:Int), .bool false].toArray 142);obtain ⟨v23,hw2⟩:∃ x,v22.alloc (.cells [Value.int .u64 (mine.toNat:Int), .slice (some ⟨mr,0,none⟩) nn nn, .int .i64 (gl:Int), .bool false].toArray 142)=x:=⟨_,rfl⟩;obtain ⟨p23,ho2⟩:∃ x,Ak p22 v22.heap.size (0,0)=x:=⟨_,rfl⟩;rw [hw2,ho2] at Ack;rw [hw2] at AdA;rw [Aca] at AdA ho2;have hrun:(Instr.box 142 (.agg #[Value.int .u64 (mine.toNat:Int), .slice (some ⟨mr,0,none⟩) nn nn, .int .i64 (gl:Int), .bool false])).run prog v22 = .ok (.pointer (some ⟨lb,0,none⟩)) v23:=by rw [<-hw2, <-Aca];kernel_rfl
         have Aax:=ae hrun;have hrb:=(Ack.block _ (au hrb) id).trans hrb;have hmr:=(Ack.block _ (au hmr) id).trans hmr;have hlb:=AdA;have hJ:=hJ.trans Ack;have hS:=hSH.out _ _ hJ;clear hrun AdA Ack hw2 ho2 Aca;refine BM Aax.out ?_;refine wpList_nil ?_;simp only [Act.put,GL,DL,lss];refine ⟨fun _=>hS, ?_⟩;refine tO 17 (h:=?_);obtain ⟨vl,Acz⟩:∃ b,v23.heap.size=b:=⟨_,rfl⟩;have Aeh:V.heap.size<=vl:=by rw [<-Acz];exact hJ.size
         have AjD:rb ≠ vl:=by have:=au hrb;rw [<-Acz];omega
         have AcI:mr ≠ vl:=by have:=au hmr;rw [<-Acz];omega
         have AcT:lb ≠ vl:=by have:=au hlb;rw [<-Acz];omega
         have AbX:=(aj.refl ai v23 p23).alloc (.cells [Value.pointer none].toArray 135) (0,0);have Adt:=heap_alloc_new v23 (.cells [Value.pointer none].toArray 135);obtain ⟨v24,hw2⟩:∃ x,v23.alloc (.cells [Value.pointer none].toArray 135)=x:=⟨_,rfl⟩;obtain ⟨p24,ho2⟩:∃ x,Ak p23 v23.heap.size (0,0)=x:=⟨_,rfl⟩;rw [hw2,ho2] at AbX;rw [hw2] at Adt;rw [Acz] at Adt ho2;have hov:p24 vl=(0,0):=by rw [<-ho2];exact Au _ _ _
         have hrun:(Instr.alloc 135 true (.tuple #[])).run prog v23 = .ok (.pointer (some ⟨vl,0,none⟩)) v24:=by rw [<-hw2, <-Acz];kernel_rfl
         have Aax:=ae hrun;have hrb:=(AbX.block _ (au hrb) id).trans hrb;have hmr:=(AbX.block _ (au hmr) id).trans hmr;have hlb:=(AbX.block _ (au hlb) id).trans hlb;have hvl:=Adt;have hJ:=hJ.trans AbX;have hS:=hSH.out _ _ hJ;clear hrun Adt AbX hw2 ho2 Acz;refine AU Aax.out ?_;refine wpList_nil ?_;simp only [Act.put,GL,DL,lss];refine ⟨fun _=>hS, ?_⟩;refine tO 18 (h:=?_);have cvl:=ag hvl 0;have fvl:=Ap hvl 0;simp only [ay] at cvl;have hJ:=hJ.setCell (a:=⟨vl,0,none⟩) (.pointer (some ⟨lb,0,none⟩)) (.inr Aeh);have hvl:=Ai (i:=0) (.pointer (some ⟨lb,0,none⟩)) hvl;have hlb:=(Below.heap_setCell v24 ⟨vl,0,none⟩ (.pointer (some ⟨lb,0,none⟩)) lb (by first | exact AcT | exact fun h=>Acr h.symm)).trans hlb
         have hmr:=(Below.heap_setCell v24 ⟨vl,0,none⟩ (.pointer (some ⟨lb,0,none⟩)) mr (by first | exact AcI | exact fun h=>AcH h.symm)).trans hmr
         have hS:=hSH.out _ _ hJ;go_wp2_with fail;refine ⟨fun _=>hS, ?_⟩;refine tD (h:=?_);exact ⟨rfl,vl,lb,mr,p24, .pointer (some ⟨p,0,none⟩), .pointer (some ⟨p,0,none⟩), .pointer (some ⟨p,0,none⟩), .int .u64 (mine.toNat:Int), .slice (some ⟨rb,0,none⟩) 1 1, .pointer (some ⟨pz,0,none⟩), .pointer (some ⟨pz,0,none⟩), .pointer (some ⟨pz,1,none⟩), .int .i64 (nn:Int), .slice (some ⟨mr,0,none⟩) nn nn, .pointer (some ⟨gp,0,none⟩), .pointer (some ⟨gp,0,none⟩), .pointer (some ⟨gp,1,none⟩), .slice ga gl gc, .int .i64 (gl:Int), .agg #[Value.int .u64 (mine.toNat:Int), .slice (some ⟨mr,0,none⟩) nn nn, .int .i64 (gl:Int), .bool false], .pointer (some ⟨lb,0,none⟩),by simp only [Act.puts,Act.put,GL,DL,lss],⟨Aeh,Agc,AgO,by first | exact Ahg | exact fun h=>Adw h.symm,by first | exact Acr | exact fun h=>AcT h.symm,by first | exact AcH | exact fun h=>AcI h.symm⟩,hvl,hlb,hmr,by rw [hov],hJ⟩
        ·obtain ⟨vl,Acz⟩:∃ b,v22.heap.size=b:=⟨_,rfl⟩;have Aeh:V.heap.size<=vl:=by rw [<-Acz];exact hJ.size
         have AjD:rb ≠ vl:=by have:=au hrb;rw [<-Acz];omega
         have AcI:mr ≠ vl:=by have:=au hmr;rw [<-Acz];omega
         have Ack:=(aj.refl ai v22 p22).alloc (.cells [Value.pointer none].toArray 135) (0,0);have Adt:=heap_alloc_new v22 (.cells [Value.pointer none].toArray 135);obtain ⟨v23,hw2⟩:∃ x,v22.alloc (.cells [Value.pointer none].toArray 135)=x:=⟨_,rfl⟩;obtain ⟨p23,ho2⟩:∃ x,Ak p22 v22.heap.size (0,0)=x:=⟨_,rfl⟩;rw [hw2,ho2] at Ack;rw [hw2] at Adt;rw [Acz] at Adt ho2;have hov:p23 vl=(0,0):=by rw [<-ho2];exact Au _ _ _
         have hrun:(Instr.alloc 135 true (.tuple #[])).run prog v22 = .ok (.pointer (some ⟨vl,0,none⟩)) v23:=by rw [<-hw2, <-Acz];kernel_rfl
         have Aax:=ae hrun;have hrb:=(Ack.block _ (au hrb) id).trans hrb;have hmr:=(Ack.block _ (au hmr) id).trans hmr;have hvl:=Adt;have hJ:=hJ.trans Ack;have hS:=hSH.out _ _ hJ;clear hrun Adt Ack hw2 ho2 Acz;refine AU Aax.out ?_;refine wpList_nil ?_;simp only [Act.put,GL,DL,lss];refine ⟨fun _=>hS, ?_⟩;refine tO 16 (h:=?_);obtain ⟨lb,Aca⟩:∃ b,v23.heap.size=b:=⟨_,rfl⟩;have Agc:V.heap.size<=lb:=by rw [<-Aca];exact hJ.size
         have Ahf:rb ≠ lb:=by have:=au hrb;rw [<-Aca];omega
         have Adw:mr ≠ lb:=by have:=au hmr;rw [<-Aca];omega
         have Acr:vl ≠ lb:=by have:=au hvl;rw [<-Aca];omega
         have AbX:=(aj.refl ai v23 p23).alloc (.cells [Value.int .u64 (mine.toNat:Int), .slice (some ⟨mr,0,none⟩) nn nn, .int .i64 (gl:Int), .bool false].toArray 142) (0,0);have AdA:=heap_alloc_new v23 (.cells [Value.int .u64 (mine.toNat:Int), .slice (some ⟨mr,0,none⟩) nn nn, .int .i64 (gl:Int), .bool false].toArray 142);obtain ⟨v24,hw2⟩:∃ x,v23.alloc (.cells [Value.int .u64 (mine.toNat:Int), .slice (some ⟨mr,0,none⟩) nn nn, .int .i64 (gl:Int), .bool false].toArray 142)=x:=⟨_,rfl⟩;obtain ⟨p24,ho2⟩:∃ x,Ak p23 v23.heap.size (0,0)=x:=⟨_,rfl⟩;rw [hw2,ho2] at AbX;rw [hw2] at AdA;rw [Aca] at AdA ho2;have hrun:(Instr.box 142 (.agg #[Value.int .u64 (mine.toNat:Int), .slice (some ⟨mr,0,none⟩) nn nn, .int .i64 (gl:Int), .bool false])).run prog v23 = .ok (.pointer (some ⟨lb,0,none⟩)) v24:=by rw [<-hw2, <-Aca];kernel_rfl
         have Aax:=ae hrun;have hov:=(AbX.own _ (au hvl)).trans hov;have hrb:=(AbX.block _ (au hrb) id).trans hrb;have hmr:=(AbX.block _ (au hmr) id).trans hmr;have hvl:=(AbX.block _ (au hvl) id).trans hvl;have hlb:=AdA;have hJ:=hJ.trans AbX;have hS:=hSH.out _ _ hJ;clear hrun AdA AbX hw2 ho2 Aca;refine BM Aax.out ?_;refine wpList_nil ?_;simp only [Act.put,GL,DL,lss];refine ⟨fun _=>hS, ?_⟩;refine tO 18 (h:=?_);have cvl:=ag hvl 0;have fvl:=Ap hvl 0;simp only [ay] at cvl;have hJ:=hJ.setCell (a:=⟨vl,0,none⟩) (.pointer (some ⟨lb,0,none⟩)) (.inr Aeh);have hvl:=Ai (i:=0) (.pointer (some ⟨lb,0,none⟩)) hvl;have hlb:=(Below.heap_setCell v24 ⟨vl,0,none⟩ (.pointer (some ⟨lb,0,none⟩)) lb (by first | exact AcT | exact fun h=>Acr h.symm)).trans hlb
         have hmr:=(Below.heap_setCell v24 ⟨vl,0,none⟩ (.pointer (some ⟨lb,0,none⟩)) mr (by first | exact AcI | exact fun h=>AcH h.symm)).trans hmr
         have hS:=hSH.out _ _ hJ;go_wp2_with fail;refine ⟨fun _=>hS, ?_⟩;refine tD (h:=?_);exact ⟨rfl,vl,lb,mr,p24, .pointer (some ⟨p,0,none⟩), .pointer (some ⟨p,0,none⟩), .pointer (some ⟨p,0,none⟩), .int .u64 (mine.toNat:Int), .slice (some ⟨rb,0,none⟩) 1 1, .pointer (some ⟨pz,0,none⟩), .pointer (some ⟨pz,0,none⟩), .pointer (some ⟨pz,1,none⟩), .int .i64 (nn:Int), .slice (some ⟨mr,0,none⟩) nn nn, .pointer (some ⟨gp,0,none⟩), .pointer (some ⟨gp,0,none⟩), .pointer (some ⟨gp,1,none⟩), .slice ga gl gc, .int .i64 (gl:Int), .agg #[Value.int .u64 (mine.toNat:Int), .slice (some ⟨mr,0,none⟩) nn nn, .int .i64 (gl:Int), .bool false], .pointer (some ⟨lb,0,none⟩),by simp only [Act.puts,Act.put,GL,DL,lss],⟨Aeh,Agc,AgO,by first | exact Ahg | exact fun h=>Adw h.symm,by first | exact Acr | exact fun h=>AcT h.symm,by first | exact AcH | exact fun h=>AcI h.symm⟩,hvl,hlb,hmr,by rw [hov],hJ⟩
       ·obtain ⟨vl,Acz⟩:∃ b,v21.heap.size=b:=⟨_,rfl⟩;have Aeh:V.heap.size<=vl:=by rw [<-Acz];exact hJ.size
        have AjD:rb ≠ vl:=by have:=au hrb;rw [<-Acz];omega
        have AeK:=(aj.refl ai v21 p21).alloc (.cells [Value.pointer none].toArray 135) (0,0);have Adt:=heap_alloc_new v21 (.cells [Value.pointer none].toArray 135);obtain ⟨v22,hw2⟩:∃ x,v21.alloc (.cells [Value.pointer none].toArray 135)=x:=⟨_,rfl⟩;obtain ⟨p22,ho2⟩:∃ x,Ak p21 v21.heap.size (0,0)=x:=⟨_,rfl⟩;rw [hw2,ho2] at AeK;rw [hw2] at Adt;rw [Acz] at Adt ho2;have hov:p22 vl=(0,0):=by rw [<-ho2];exact Au _ _ _
        have hrun:(Instr.alloc 135 true (.tuple #[])).run prog v21 = .ok (.pointer (some ⟨vl,0,none⟩)) v22:=by rw [<-hw2, <-Acz];kernel_rfl
        have Aax:=ae hrun;have hrb:=(AeK.block _ (au hrb) id).trans hrb;have hvl:=Adt;have hJ:=hJ.trans AeK;have hS:=hSH.out _ _ hJ;clear hrun Adt AeK hw2 ho2 Acz;refine AU Aax.out ?_;refine wpList_nil ?_;simp only [Act.put,GL,DL,lss];refine ⟨fun _=>hS, ?_⟩;refine tO 9 (h:=?_);have crb:=ag hrb 0;simp only [ay] at crb;have hrp:=ae (Ls (o:=p22) nn hn1 hn3 crb (au hrb));clear crb;go_wp2_with fail;refine hrp.out.mono ?_;rintro e v23 ⟨x23,p23,rfl,Ack,rfl,AfX,AhU⟩;obtain ⟨mr,Adz⟩:∃ b,v22.heap.size=b:=⟨_,rfl⟩;have AgO:V.heap.size<=mr:=by rw [<-Adz];exact hJ.size
        have AjE:rb ≠ mr:=by have:=au hrb;rw [<-Adz];omega
        have AcH:vl ≠ mr:=by have:=au hvl;rw [<-Adz];omega
        rw [Adz] at AfX AhU;have hov:=(Ack.own _ (au hvl)).trans hov;have hrb:=(Ack.block _ (au hrb) id).trans hrb;have hvl:=(Ack.block _ (au hvl) id).trans hvl;have hmr:=AfX;have hJ:=hJ.trans Ack;have hS:=hSH.out _ _ hJ;clear Ack AfX hrp AhU;rw [Adz];clear Adz;go_wp2_with fail;refine ⟨fun _=>hS, ?_⟩;refine tn 15 (h:=tO 16 (h:=?_));obtain ⟨lb,Aca⟩:∃ b,v23.heap.size=b:=⟨_,rfl⟩;have Agc:V.heap.size<=lb:=by rw [<-Aca];exact hJ.size
        have Ahf:rb ≠ lb:=by have:=au hrb;rw [<-Aca];omega
        have Adw:mr ≠ lb:=by have:=au hmr;rw [<-Aca];omega
        have Acr:vl ≠ lb:=by have:=au hvl;rw [<-Aca];omega
        have AbX:=(aj.refl ai v23 p23).alloc (.cells [Value.int .u64 (mine.toNat:Int), .slice (some ⟨mr,0,none⟩) nn nn, .int .i64 (gl:Int), .bool false].toArray 142) (0,0);have AdA:=heap_alloc_new v23 (.cells [Value.int .u64 (mine.toNat:Int), .slice (some ⟨mr,0,none⟩) nn nn, .int .i64 (gl:Int), .bool false].toArray 142);obtain ⟨v24,hw2⟩:∃ x,v23.alloc (.cells [Value.int .u64 (mine.toNat:Int), .slice (some ⟨mr,0,none⟩) nn nn, .int .i64 (gl:Int), .bool false].toArray 142)=x:=⟨_,rfl⟩;obtain ⟨p24,ho2⟩:∃ x,Ak p23 v23.heap.size (0,0)=x:=⟨_,rfl⟩;rw [hw2,ho2] at AbX;rw [hw2] at AdA;rw [Aca] at AdA ho2;have hrun:(Instr.box 142 (.agg #[Value.int .u64 (mine.toNat:Int), .slice (some ⟨mr,0,none⟩) nn nn, .int .i64 (gl:Int), .bool false])).run prog v23 = .ok (.pointer (some ⟨lb,0,none⟩)) v24:=by rw [<-hw2, <-Aca];kernel_rfl
        have Aax:=ae hrun;have hov:=(AbX.own _ (au hvl)).trans hov;have hrb:=(AbX.block _ (au hrb) id).trans hrb;have hmr:=(AbX.block _ (au hmr) id).trans hmr;have hvl:=(AbX.block _ (au hvl) id).trans hvl;have hlb:=AdA;have hJ:=hJ.trans AbX;have hS:=hSH.out _ _ hJ;clear hrun AdA AbX hw2 ho2 Aca;refine BM Aax.out ?_;refine wpList_nil ?_;simp only [Act.put,GL,DL,lss];refine ⟨fun _=>hS, ?_⟩;refine tO 18 (h:=?_);have cvl:=ag hvl 0;have fvl:=Ap hvl 0;simp only [ay] at cvl;have hJ:=hJ.setCell (a:=⟨vl,0,none⟩) (.pointer (some ⟨lb,0,none⟩)) (.inr Aeh);have hvl:=Ai (i:=0) (.pointer (some ⟨lb,0,none⟩)) hvl;have hlb:=(Below.heap_setCell v24 ⟨vl,0,none⟩ (.pointer (some ⟨lb,0,none⟩)) lb (by first | exact AcT | exact fun h=>Acr h.symm)).trans hlb
        have hmr:=(Below.heap_setCell v24 ⟨vl,0,none⟩ (.pointer (some ⟨lb,0,none⟩)) mr (by first | exact AcI | exact fun h=>AcH h.symm)).trans hmr
        have hS:=hSH.out _ _ hJ;go_wp2_with fail;refine ⟨fun _=>hS, ?_⟩;refine tD (h:=?_);exact ⟨rfl,vl,lb,mr,p24, .pointer (some ⟨p,0,none⟩), .pointer (some ⟨p,0,none⟩), .pointer (some ⟨p,0,none⟩), .int .u64 (mine.toNat:Int), .slice (some ⟨rb,0,none⟩) 1 1, .pointer (some ⟨pz,0,none⟩), .pointer (some ⟨pz,0,none⟩), .pointer (some ⟨pz,1,none⟩), .int .i64 (nn:Int), .slice (some ⟨mr,0,none⟩) nn nn, .pointer (some ⟨gp,0,none⟩), .pointer (some ⟨gp,0,none⟩), .pointer (some ⟨gp,1,none⟩), .slice ga gl gc, .int .i64 (gl:Int), .agg #[Value.int .u64 (mine.toNat:Int), .slice (some ⟨mr,0,none⟩) nn nn, .int .i64 (gl:Int), .bool false], .pointer (some ⟨lb,0,none⟩),by simp only [Act.puts,Act.put,GL,DL,lss],⟨Aeh,Agc,AgO,by first | exact Ahg | exact fun h=>Adw h.symm,by first | exact Acr | exact fun h=>AcT h.symm,by first | exact AcH | exact fun h=>AcI h.symm⟩,hvl,hlb,hmr,by rw [hov],hJ⟩
      ·obtain ⟨vl,Acz⟩:∃ b,V.heap.size=b:=⟨_,rfl⟩;have Aeh:V.heap.size<=vl:=by rw [<-Acz];exact hJ.size
       have Adu:=(aj.refl ai V o6).alloc (.cells [Value.pointer none].toArray 135) (0,0);have Adt:=heap_alloc_new V (.cells [Value.pointer none].toArray 135);obtain ⟨v21,hw2⟩:∃ x,V.alloc (.cells [Value.pointer none].toArray 135)=x:=⟨_,rfl⟩;obtain ⟨p21,ho2⟩:∃ x,Ak o6 V.heap.size (0,0)=x:=⟨_,rfl⟩;rw [hw2,ho2] at Adu;rw [hw2] at Adt;rw [Acz] at Adt ho2;have hov:p21 vl=(0,0):=by rw [<-ho2];exact Au _ _ _
       have hrun:(Instr.alloc 135 true (.tuple #[])).run prog V = .ok (.pointer (some ⟨vl,0,none⟩)) v21:=by rw [<-hw2, <-Acz];kernel_rfl
       have Aax:=ae hrun;have hvl:=Adt;have hJ:=hJ.trans Adu;have hS:=hSH.out _ _ hJ;clear hrun Adt Adu hw2 ho2 Acz;refine AU Aax.out ?_;refine wpList_nil ?_;simp only [Act.put,GL,DL,lss];refine ⟨fun _=>hS, ?_⟩;refine tO 4 (h:=?_);obtain ⟨rb,AgB⟩:∃ b,v21.heap.size=b:=⟨_,rfl⟩;have AuW:V.heap.size<=rb:=by rw [<-AgB];exact hJ.size
       have Axk:vl ≠ rb:=by have:=au hvl;rw [<-AgB];omega
       have AeK:=(aj.refl ai v21 p21).alloc (.cells [Value.int .i64 (-1)].toArray 3) (0,0);have Ahd:=heap_alloc_new v21 (.cells [Value.int .i64 (-1)].toArray 3);obtain ⟨v22,hw2⟩:∃ x,v21.alloc (.cells [Value.int .i64 (-1)].toArray 3)=x:=⟨_,rfl⟩;obtain ⟨p22,ho2⟩:∃ x,Ak p21 v21.heap.size (0,0)=x:=⟨_,rfl⟩;rw [hw2,ho2] at AeK;rw [hw2] at Ahd;rw [AgB] at Ahd ho2;have hrun:(Instr.buildSlice 53 1 #[(0, .int .i64 (-1))]).run prog v21 = .ok (.slice (some ⟨rb,0,none⟩) 1 1) v22:=by rw [<-hw2, <-AgB];exact XU v21
       have Aax:=ae hrun;have hov:=(AeK.own _ (au hvl)).trans hov;have hvl:=(AeK.block _ (au hvl) id).trans hvl;have hrb:=Ahd;have hJ:=hJ.trans AeK;have hS:=hSH.out _ _ hJ;clear hrun Ahd AeK hw2 ho2 AgB;refine BO #[(0, .int .i64 (-1))] rfl Aax.out ?_;refine wpList_nil ?_;simp only [Act.put,GL,DL,lss];refine ⟨fun _=>hS, ?_⟩;refine tO 9 (h:=?_);have crb:=ag hrb 0;simp only [ay] at crb;have hrp:=ae (Ls (o:=p22) nn hn1 hn3 crb (au hrb));clear crb;go_wp2_with fail;refine hrp.out.mono ?_;rintro e v23 ⟨x23,p23,rfl,Ack,rfl,AfX,AhU⟩;obtain ⟨mr,Adz⟩:∃ b,v22.heap.size=b:=⟨_,rfl⟩;have AgO:V.heap.size<=mr:=by rw [<-Adz];exact hJ.size
       have AjE:rb ≠ mr:=by have:=au hrb;rw [<-Adz];omega
       have AcH:vl ≠ mr:=by have:=au hvl;rw [<-Adz];omega
       rw [Adz] at AfX AhU;have hov:=(Ack.own _ (au hvl)).trans hov;have hrb:=(Ack.block _ (au hrb) id).trans hrb;have hvl:=(Ack.block _ (au hvl) id).trans hvl;have hmr:=AfX;have hJ:=hJ.trans Ack;have hS:=hSH.out _ _ hJ;clear Ack AfX hrp AhU;rw [Adz];clear Adz;go_wp2_with fail;refine ⟨fun _=>hS, ?_⟩;refine tn 15 (h:=tO 16 (h:=?_));obtain ⟨lb,Aca⟩:∃ b,v23.heap.size=b:=⟨_,rfl⟩;have Agc:V.heap.size<=lb:=by rw [<-Aca];exact hJ.size
       have Ahf:rb ≠ lb:=by have:=au hrb;rw [<-Aca];omega
       have Adw:mr ≠ lb:=by have:=au hmr;rw [<-Aca];omega
       have Acr:vl ≠ lb:=by have:=au hvl;rw [<-Aca];omega
       have AbX:=(aj.refl ai v23 p23).alloc (.cells [Value.int .u64 (mine.toNat:Int), .slice (some ⟨mr,0,none⟩) nn nn, .int .i64 (gl:Int), .bool false].toArray 142) (0,0);have AdA:=heap_alloc_new v23 (.cells [Value.int .u64 (mine.toNat:Int), .slice (some ⟨mr,0,none⟩) nn nn, .int .i64 (gl:Int), .bool false].toArray 142);obtain ⟨v24,hw2⟩:∃ x,v23.alloc (.cells [Value.int .u64 (mine.toNat:Int), .slice (some ⟨mr,0,none⟩) nn nn, .int .i64 (gl:Int), .bool false].toArray 142)=x:=⟨_,rfl⟩;obtain ⟨p24,ho2⟩:∃ x,Ak p23 v23.heap.size (0,0)=x:=⟨_,rfl⟩;rw [hw2,ho2] at AbX;rw [hw2] at AdA;rw [Aca] at AdA ho2;have hrun:(Instr.box 142 (.agg #[Value.int .u64 (mine.toNat:Int), .slice (some ⟨mr,0,none⟩) nn nn, .int .i64 (gl:Int), .bool false])).run prog v23 = .ok (.pointer (some ⟨lb,0,none⟩)) v24:=by rw [<-hw2, <-Aca];kernel_rfl
       have Aax:=ae hrun;have hov:=(AbX.own _ (au hvl)).trans hov;have hrb:=(AbX.block _ (au hrb) id).trans hrb;have hmr:=(AbX.block _ (au hmr) id).trans hmr;have hvl:=(AbX.block _ (au hvl) id).trans hvl;have hlb:=AdA;have hJ:=hJ.trans AbX;have hS:=hSH.out _ _ hJ;clear hrun AdA AbX hw2 ho2 Aca;refine BM Aax.out ?_;refine wpList_nil ?_;simp only [Act.put,GL,DL,lss];refine ⟨fun _=>hS, ?_⟩;refine tO 18 (h:=?_);have cvl:=ag hvl 0;have fvl:=Ap hvl 0;simp only [ay] at cvl;have hJ:=hJ.setCell (a:=⟨vl,0,none⟩) (.pointer (some ⟨lb,0,none⟩)) (.inr Aeh);have hvl:=Ai (i:=0) (.pointer (some ⟨lb,0,none⟩)) hvl;have hlb:=(Below.heap_setCell v24 ⟨vl,0,none⟩ (.pointer (some ⟨lb,0,none⟩)) lb (by first | exact AcT | exact fun h=>Acr h.symm)).trans hlb
       have hmr:=(Below.heap_setCell v24 ⟨vl,0,none⟩ (.pointer (some ⟨lb,0,none⟩)) mr (by first | exact AcI | exact fun h=>AcH h.symm)).trans hmr
       have hS:=hSH.out _ _ hJ;go_wp2_with fail;refine ⟨fun _=>hS, ?_⟩;refine tD (h:=?_);exact ⟨rfl,vl,lb,mr,p24, .pointer (some ⟨p,0,none⟩), .pointer (some ⟨p,0,none⟩), .pointer (some ⟨p,0,none⟩), .int .u64 (mine.toNat:Int), .slice (some ⟨rb,0,none⟩) 1 1, .pointer (some ⟨pz,0,none⟩), .pointer (some ⟨pz,0,none⟩), .pointer (some ⟨pz,1,none⟩), .int .i64 (nn:Int), .slice (some ⟨mr,0,none⟩) nn nn, .pointer (some ⟨gp,0,none⟩), .pointer (some ⟨gp,0,none⟩), .pointer (some ⟨gp,1,none⟩), .slice ga gl gc, .int .i64 (gl:Int), .agg #[Value.int .u64 (mine.toNat:Int), .slice (some ⟨mr,0,none⟩) nn nn, .int .i64 (gl:Int), .bool false], .pointer (some ⟨lb,0,none⟩),by simp only [Act.puts,Act.put,GL,DL,lss],⟨Aeh,Agc,AgO,by first | exact Ahg | exact fun h=>Adw h.symm,by first | exact Acr | exact fun h=>AcT h.symm,by first | exact AcH | exact fun h=>AcI h.symm⟩,hvl,hlb,hmr,by rw [hov],hJ⟩
     rintro a8 W8 ⟨vl,lb,mr,oF,y1,y2,y3,y4,y5,y6,y7,y8,y9,y10,y11,y12,y13,y14,y15,y16,y17,rfl,hge,hvl,hlb,hmr,hov,hJ⟩;simp only [Act.puts,Act.put,GL,DL,lss];clear hS7 hV;obtain ⟨oG,hoG⟩:∃ oG:Own,oG=fun k=>if k=lb then (M+4,1) else if k=mr then (M+4,2) else oF k:=⟨_,rfl⟩
     obtain ⟨gv,gl',gm,n1,n2,n3⟩:=hge;have hJ:aj ai V o6 W8 oG:=hJ.Me oG (fun k hk=>by rw [hoG];show (if k=lb then _ else if k=mr then _ else _)=_;rw [if_neg (by omega),if_neg (by omega)];exact hJ.own k hk)
     have glb:oG lb=(M+4,1):=by rw [hoG];exact if_pos rfl
     have gmr:oG mr=(M+4,2):=by rw [hoG];show (if mr=lb then _ else if mr=mr then _ else _)=_;rw [if_neg (fun h=>n1 h.symm),if_pos rfl]
     have gvl:(oG vl).1=0:=by rw [hoG];show (if vl=lb then _ else if vl=mr then _ else _:Nat × Nat).1=_;rw [if_neg n2,if_neg n3];exact hov
     obtain ⟨st6,hb6,ps6,po6,bb6,ob6,gb6,go6,gL6,hh6,pW,AdR,AcJ,ML⟩:=hG6.out;obtain ⟨kV,hVz⟩:=hKV.out;have k8:=kV.trans hJ;have hb8:=hb6.step k8 id;have bb8:=(k8.block bb (au bb6) id).trans bb6;have ob8:=(k8.own bb (au bb6)).trans ob6;have gb8:=(k8.block gp (au gb6) id).trans gb6;have go8:(oG gp).1=0:=by rw [k8.own gp (au gb6)];exact go6
     have gL8:=gL6.step k8 id;have Aft:=pW.step0 k8;have st8:=st6.trans (k8.mono (fun _ h=>h.elim));have hk':s'.kept=⟨mine,mine,g.2⟩:=by rw [hf4];exact IZ hf0
     have AyZ:pz<V.heap.size:=Nat.lt_of_lt_of_le (Nat.lt_of_lt_of_le (au hb6.1) (Nat.le_refl _)) kV.size;have npl:vl ≠ pz:=by omega
     have nlb:lb ≠ pz:=by omega
     have nmr:mr ≠ pz:=by omega
     obtain ⟨V8,hV8⟩:∃ V,W8.drew=V:=⟨_,rfl⟩;have kD:aj ai W8 oG V8 oG:=by rw [<-hV8];exact (aj.refl ai W8 oG).drew
     have hbV:=hb8.step kD id;have hvl:=(kD.block vl (au hvl) id).trans hvl;have hlb:=(kD.block lb (au hlb) id).trans hlb;have hmr:=(kD.block mr (au hmr) id).trans hmr;have bb8:=(kD.block bb (au bb8) id).trans bb8;have gb8:=(kD.block gp (au gb8) id).trans gb8;have gL8:=gL8.step kD id;have Aft:=Aft.step0 kD;have st8:=st8.trans (kD.mono (fun _ h=>h.elim));have b9a:=Ai (i:=3) (.iface 135 (.pointer (some ⟨lb,0,none⟩))) hbV.1;have b9:=Ai (i:=6) (.int .i64 ((min z.Ag gl:Nat):Int)) b9a;have Apk:=(Below.heap_setCell V8 ⟨pz,3,none⟩ (.iface 135 (.pointer (some ⟨lb,0,none⟩))) vl npl).trans hvl;have ApD:=(Below.heap_setCell V8 ⟨pz,3,none⟩ (.iface 135 (.pointer (some ⟨lb,0,none⟩))) lb nlb).trans hlb;have AsT:=(Below.heap_setCell V8 ⟨pz,3,none⟩ (.iface 135 (.pointer (some ⟨lb,0,none⟩))) mr nmr).trans hmr;have vl9:=(Below.heap_setCell (V8.setCell ⟨pz,3,none⟩ (.iface 135 (.pointer (some ⟨lb,0,none⟩)))) ⟨pz,6,none⟩ (.int .i64 ((min z.Ag gl:Nat):Int)) vl npl).trans Apk;have lb9:=(Below.heap_setCell (V8.setCell ⟨pz,3,none⟩ (.iface 135 (.pointer (some ⟨lb,0,none⟩)))) ⟨pz,6,none⟩ (.int .i64 ((min z.Ag gl:Nat):Int)) lb nlb).trans ApD;have mr9:=(Below.heap_setCell (V8.setCell ⟨pz,3,none⟩ (.iface 135 (.pointer (some ⟨lb,0,none⟩)))) ⟨pz,6,none⟩ (.int .i64 ((min z.Ag gl:Nat):Int)) mr nmr).trans AsT;have k9:=((aj.refl (ak (M+4)) V8 oG).setCell (a:=⟨pz,3,none⟩) (.iface 135 (.pointer (some ⟨lb,0,none⟩))) (.inl (by show (oG pz).1=_;rw [hbV.2]))).setCell (a:=⟨pz,6,none⟩) (.int .i64 ((min z.Ag gl:Nat):Int)) (.inl (by show (oG pz).1=_;rw [hbV.2]));have Akl:GV _ oG D M pz ps pd lb ({ z with s:=s',Ag:=min z.Ag gl }:Am) mine (List.replicate nn (-1)) gl false:=
      ⟨ML,⟨b9,hbV.2⟩,⟨mr,nn,by rw [List.length_replicate];exact lb9,glb,mr9,gmr,by rw [List.length_replicate];exact Nat.le_refl _,by unfold maxLen;omega⟩,Aft.step k9 (KC.self ML.1)⟩
     have cv:=ag hvl 0;have cl:=ag hlb 2;obtain ⟨⟨-, -, -,c3, -, -,c6⟩,hfr, -⟩:=hbV.cells;have f3:=hfr 3;have f6:=hfr 6;have cv2:=ag Apk 0;have cl2:=ag ApD 2;have c62:=ag b9a 6;simp only [ay,ax] at cv cl cv2 cl2;have Bap:=aI cv (aI cl c6);have Amy:=Bap;rw [<-hV8] at Amy;have AvW:=aI cv2 (aI cl2 (show _=some (Value.int .i64 (z.Ag:Int)) from c62));have n4:¬ ak (M+4) 0:=fun h=>by unfold ak at h;omega
     have n4X:¬ ak (M+4) X:=fun h=>by have:=hXH.out.1;unfold ak at h;omega
     have h9:=ae (aI Akl (aI (st8.trans (k9.mono (fun k h=>by cases h;exact KC.own))) (aI vl9 (aI gvl (aI ((k9.block bb (au bb8) (by rw [ob8];exact n4X)).trans bb8) (aI ob8 (show JA _ oG (some g) (some ⟨gp,0,none⟩) from ⟨gp,_,rfl,(k9.block gp (au gb8) (by rw [go8];exact n4)).trans gb8,go8,gL8.step k9 n4⟩)))))));have hmn:min (z.Ag:Int) (gl:Int)=((min z.Ag gl:Nat):Int):=by omega
     have Amn:(0:Int)<=(z.Ag:Int)/\(z.Ag:Int)<=256:=by have:=hPH.out.ok.co;have:=hPH.out.ok.ls.n;have e:z.BN.Ag=z.Ag:=rfl;have e2:z.BN.k=z.s.kept:=rfl;omega
     have Amg:=ae AdR;have AnY:=ae hk';have BaJ:=ae ML;clear st6 hb6 ps6 po6 bb6 ob6 gb6 go6 gL6 hh6 pW AdR AcJ ML kV hVz k8 hb8 bb8 ob8 gb8 go8 gL8 Aft st8 hk' AyZ npl nlb nmr b9a b9 Apk ApD AsT vl9 lb9 mr9 k9 Akl cv cl hfr cv2 cl2 c62 n4 n4X hvl hlb hmr hov kD hbV hJ glb gmr gvl gv gl' gm n1 n2 n3 hoG;go_wp2_with fail;refine Aa (fun w'=>w'.cell? ⟨vl,0,none⟩=some (.pointer (some ⟨lb,0,none⟩))/\w'.cell? ⟨lb,2,none⟩=some (.int .i64 (gl:Int))/\w'.cell? ⟨pz,6,none⟩=some (.int .i64 (z.Ag:Int))) (fun i=>decide (i<18)) (by kernel_rfl) Amy (fun hHeld => ?_);rw [hV8] at hHeld ⊢;clear hV8 Amy;refine tq 0 (h:=tq 1 (h:=tq 2 (h:=tq 4 (h:=tq 5 (h:=tq 6 (h:=tq 7 (h:=tq 8 (h:=tq 9 (h:=tq 10 (h:=tq 11 (h:=tq 12 (h:=tO 3 (h:=?_)))))))))))));go_wp2_with fail;refine ⟨fun _=>hHeld, ?_⟩;refine tq 13 (h:=tq 14 (h:=tO 15 (h:=?_)));go_wp2_with fail;refine ⟨fun _=>AvW, ?_⟩;refine tO 16 (h:=?_);go_wp2_with fail;refine ⟨fun _=>AvW, ?_⟩;refine tq 17 (h:=tO 18 (h:=?_));go_wp2_with fail;refine ⟨fun h=>by simp at h, ?_⟩;refine tD (h:=?_);clear c3 c6 f3 f6 hmn;have hkl:({ z with s:=s',Ag:=min z.Ag gl }:Am).s.kept.lines=g.2:=by show s'.kept.lines=_;rw [AnY.out]
     have Aui:=AlL.out;have AzA:z.id<nn:=by have:=hPH.out.ok.id;have e:z.BN.id=z.id:=rfl;have e2:z.BN.n=z.n:=rfl;omega
     have hcnt:=count_any h9.out.1 (by rw [hkl];exact En.small Amg.out (by omega)) (by rw [hkl];exact Amg.out.n) (by rw [List.length_replicate];omega) (by rw [List.length_replicate];omega) (by rw [List.length_replicate];exact AzA) (fun x hx=>by rw [List.eq_of_mem_replicate hx];omega) (by show min z.Ag gl<=256;omega);have Aey:=ae hcnt;clear hcnt hkl;go_wp2_with fail;refine Aey.out.mono ?_;rintro e w10 ⟨v10,o10,rfl,hs10,rfl,r,AeD,AfY⟩;obtain ⟨Akl,st9,vl9,gvl,bb9,ob9,be9⟩:=h9.out;have n4:¬ ak (M+4) 0:=fun h=>by unfold ak at h;omega
     have n4X:¬ ak (M+4) X:=fun h=>by have:=hXH.out.1;unfold ak at h;omega
     have Apl:=(hs10.block vl (au vl9) (by rw [gvl];exact n4)).trans vl9;have ArN:=(hs10.block bb (au bb9) (by rw [ob9];exact n4X)).trans bb9;have Awy:=be9.step hs10 n4;obtain ⟨-, -,⟨mb2,cap2,ApE, -⟩, -⟩:=id AfY;have hot:=LH (AfY.node AeD) (by rw [show (({ z with s:=s',Ag:=min z.Ag gl }:Am).count mine (List.replicate nn (-1)) gl false).n=z.n from (Am.NV _ _ _ _ _).1,Aui];exact hn3) 200 #[.pointer (some ⟨vl,0,none⟩), .pointer (some ⟨bb,0,none⟩)] (fun _=>⟨4,mine,0,0,0,g.2⟩) Tryz.call200 (fun w1 o1 hs i _ _=>YP i ((hs.block _ (au Apl) id).trans Apl) ((hs.block _ (au ApE) id).trans ApE) ((hs.block _ (au ArN) id).trans ArN) (Awy.step hs id)) (fun i _ _=>Aj.KO Afl.1 Afl.2 Amg.out);rw [Ov (a:=(({ z with s:=s',Ag:=min z.Ag gl }:Am).count mine (List.replicate nn (-1)) gl false).BN) (b:=z.BN) (Am.NV _ _ _ _ _).1 (Am.NV _ _ _ _ _).2] at hot;have AhS:=ae hot;have h10:=ae (aI (st9.trans (hs10.mono (fun k h=>by cases h;exact KC.own))) (AfY.node AeD));clear Akl st9 vl9 gvl bb9 ob9 be9 n4 n4X Apl ArN Awy ApE hot hs10 AeD AfY Aey;go_wp2_with fail;refine AhS.out.mono ?_;rintro e w11 ⟨v11,o11,rfl,hs11,hou⟩;have hF:=ae (aI (h10.out.1.trans (hs11.mono (fun _ h=>h.elim))) (aI hou (h10.out.2.step0 hs11)));obtain ⟨xa,xc,rfl⟩:=hou.form;clear hs11 hou AhS;go_wp2_with fail;go_ret;refine ⟨_,o11,rfl,hF.out.1, ?_, ?_⟩
     ·rw [<-KI.out];exact hF.out.2.1
     ·obtain ⟨-, -, -, -, -, -, -, -, -, -, -, -,AcJ, -⟩:=hG6.out;rw [<-KI.out];have h:=hF.out.2.2;rw [<-AcJ, <-Aui] at h;exact h
theorem OZ:((prog.info? 37).bind (·.zero)).map (·.cells)=some #[.int .u64 0, .int .u64 0, .slice none 0 0]:=by kernel_rfl
theorem Uz:(prog.info? 37).map (·.size)=some 3:=by kernel_rfl
def BR (p c:BitVec 64) (lv:Value):List Value:=[.int .u64 (p.toNat:Int), .int .u64 (c.toNat:Int),lv]
theorem MX (w:World) (p c:BitVec 64) (la:Option Addr) (ln lc:Nat) :
  (Instr.storeAt 37 (.pointer (some ⟨w.heap.size,0,none⟩)) (Dy p c (.slice la ln lc))).run prog (w.alloc (.cells #[.int .u64 0, .int .u64 0, .slice none 0 0] 37)) = .ok () (w.alloc (.cells (BR p c (.slice la ln lc)).toArray 37)):=by
 have h:=(Ba (P:=prog) (ty:=37) (vs:=BR p c (.slice la ln lc)) (heap_alloc_new w (.cells [Value.int .u64 0, .int .u64 0, .slice none 0 0].toArray 37)) rfl Uz rfl).1;rw [Be w [Value.int .u64 0, .int .u64 0, .slice none 0 0].toArray 37 (BR p c (.slice la ln lc)) rfl] at h;exact h
theorem WI {w:World} {o:Own} {eb:Nat} {e:BitVec 64} (i:Nat) (hb:w.heap[eb]?=some (.cells [Value.int .u64 (e.toNat:Int)].toArray 34 (0,0))) :
  Calls prog 139 #[.int .i64 (i:Int), .pointer (some ⟨eb,0,none⟩)] w (XL ai w o fun v w' o'=>∃ lv,v=Ea ⟨1,e,0,0,0,[]⟩ lv/\Lines w' o' 0 lv []):=by
 have al:=ae (AB (P:=prog) w 150 _ Oa);have mn:=KN w ⟨1,e,0,0,0,[]⟩ none 0 0;have st1:=(aj.refl ai w o).alloc (.cells DI.toArray 150) (0,0);have c1:=ag ((st1.block _ (au hb) id).trans hb) 0;simp only [ay] at c1;unfold DI at mn c1;have hbm:=ae (heap_alloc_new w (.cells (Bf ⟨1,e,0,0,0,[]⟩ (.slice none 0 0)).toArray 150));have stF:=ae ((aj.refl ai w o).alloc (.cells (Bf ⟨1,e,0,0,0,[]⟩ (.slice none 0 0)).toArray 150) (0,0));have mnH:=ae mn;clear mn st1 hb;unfold Ea;go_enter func139,ntmps139
 go_wp2_with (first
  | ((with_reducible apply AU);exact al.out;simp only [Act.put,GL,DL,lss])
  | ((with_reducible apply AC);exact mnH.out;simp only [Act.put]))
 refine bodyPost_ret (results_cell_row rfl _ _ w.heap.size 150 _ (0,0) _ rfl hbm.out underlying150 rfl FT) rfl ?_;exact ⟨_,_,rfl,stF.out,_,rfl,Lines.nil _ _ _⟩
theorem QF (w:World):(Instr.makeMap 204 none).run prog w = .ok (.map (some w.heap.size)) (w.alloc (.map (Bd 0 []).toArray 0)):=by
 simp only [Instr.makeMap,Sem.run_bind];rfl
theorem dZ {w:World} {o:Own} {Z mb id n:Nat} {c:BitVec 64} {lv:Value} {ls:List Ar} (hm:w.heap[mb]?=some (.map (Bd 0 [(id,c,lv)]).toArray 1)) (ho:o mb=(Z,2)) (hid:id<n) (hl:Lines w o 0 lv ls) :
  OE w o Z mb ((List.replicate n none).set id (some (c,ls))):=by
 refine ⟨[(id,c,lv)],hm,ho,by simp,fun x hx => ?_,fun i p hp => ?_⟩
 ·simp only [List.mem_singleton] at hx;subst hx;exact ⟨ls,by simp [hid],hl⟩
 ·refine ⟨_,List.mem_singleton_self _, ?_⟩
  by_cases h:id=i
  ·exact h
  ·rw [List.getElem?_set_ne h,List.getElem?_replicate] at hp;split at hp <;> simp at hp
theorem Am.NP.stands {K B:Nat} {z:Am} (h:Am.NP K B z) {e:BitVec 64} {s':AZ} (hs:SP (K+3) s') (h0:(z.s.kept.CQ e).2=0) (hk:s'.kept=(z.s.kept.CQ e).1) (h1:1<=e.toNat) (w:Nat) :
  Am.NP (K+3) B { z with s:=s',BB := .stands e ((List.replicate z.n none).set z.id (some (z.s.kept.current,z.s.kept.lines))),waited:=w }:=by
 have hk2:=GM h0;obtain ⟨hlt,hle⟩:=Jf h0;have hok:=h.ok;have hcp:z.s.kept.current.toNat<=z.s.kept.promised.toNat:=hok.cp;have hid:z.id<z.n:=hok.id;refine ⟨hs,⟨⟨hok.n1,hok.n3,hok.id, ?_, ?_, ?_,hok.se, ?_⟩,⟨h1,hle⟩, ?_, ?_, ?_⟩⟩
 ·show En B s'.kept.lines;rw [hk,hk2];exact hok.ls
 ·show s'.kept.current.toNat<=s'.kept.promised.toNat;rw [hk,hk2];show z.s.kept.current.toNat<=e.toNat;omega
 ·show s'.kept.promised.toNat<=_;rw [hk,hk2];exact hle
 ·show z.Ag<=s'.kept.lines.length;rw [hk,hk2];exact hok.co
 ·simp;rfl
 ·show ∃ p,((List.replicate z.n none).set z.id (some (z.s.kept.current,z.s.kept.lines)))[z.id]?=some (some p);exact ⟨(z.s.kept.current,z.s.kept.lines),by simp [hid]⟩
 ·intro p hp
  rcases List.mem_or_eq_of_mem_set hp with h | h
  ·have:=List.eq_of_mem_replicate h
   cases this
  ·cases h;exact hok.ls
theorem Am.Xg {z:Am} {e:BitVec 64} {x:DT} (hid:z.id<z.n):(z.lead e ((List.replicate z.n none).set z.id (some x))).2=[]:=by
 have hlen:(((List.replicate z.n (none:Option DT)).set z.id (some x)).filter Option.isSome).length=1:=by
  have key:∀ (n i:Nat),i<n->(((List.replicate n (none:Option DT)).set i (some x)).filter Option.isSome).length=1:=by
   intro n
   induction n with
   | zero=>intro i h;omega
   | succ n ih =>
    intro i h
    cases i with
    | zero=>simp [List.replicate_succ]
    | succ i =>
     rw [List.replicate_succ,lss]
     simpa using ih i (by omega)
  exact key _ _ hid
 unfold Am.lead;rw [hlen];split
 ·rfl
 ·rename_i h2;have hn:z.n=1:=by omega
  have hi:z.id=0:=by omega
  split
  ·rfl
  ·split
   ·show Aj.others _ _=[];unfold Aj.others;show ((List.range z.n).filter fun i=>i != z.id).map _=[];rw [hn,hi];rfl
   ·rfl
theorem OJ {w:World} {o:Own} {v:Value} {ts:List (Nat × List UInt8)} (h:Dn w o v ts) (hts:ts.length<=1000) {a':Option Addr} {c':Nat} :
  (Builtin.append_ #[99,99] 99 #[v, .slice a' 0 c']).run prog w = .ok v w:=by
 obtain ⟨cs,h1, -⟩:=h
 rcases h1 with ⟨⟨a,c,rfl⟩,h0, -⟩ | ⟨b,off,cap,rfl,hl,hm, -⟩
 ·exact CB w 99 99 146 2 underlying99 SH a a' 0 c c' (by omega) (by omega)
 ·exact CB w 99 99 146 2 underlying99 SH _ a' ts.length cap c' (by omega) (by omega)
theorem Vl (a b:BitVec 64):(Fj a b).toNat=max a.toNat b.toNat:=by
 unfold Fj;split <;> omega
theorem YI {a:BitVec 64} {id n:Nat} (ha:a.toNat<=281474976710656) (h1:1<=n) (h3:n<=3) (_hi:id<n):(PQ a id n).toNat=a.toNat+1+(id+n - (a.toNat+1) % n) % n:=by
 unfold PQ;rw [if_neg (by omega),BitVec.toNat_ofNat];have:=Nat.mod_lt (id+n - (a.toNat+1) % n) (show 0<n by omega);rw [Nat.mod_eq_of_lt (by omega)]
theorem Rn {w:World} {o:Own} {D M pz ps pd K B:Nat} {z:Am} (h:Bc w o D M pz ps pd z) (hp:Am.NP K B z) (hK:K+606<65536) (hB:B<=90000) :
  Calls prog 98 #[.pointer (some ⟨pz,0,none⟩)] w (XL (KC D M) w o fun v w' o'=>Dn w' o' v (Ed z.stand.2)/\Bc w' o' D M pz ps pd z.stand.1):=by
 have hn3:z.n<=3:=hp.ok.n3;have hn1:1<=z.n:=hp.ok.n1;have hid:z.id<z.n:=hp.ok.id;have hpt:z.s.kept.promised.toNat<=281474976710656:=hp.ok.pt;have hse:z.seen.toNat<=281474976710656:=hp.ok.se;have hls:En B z.s.kept.lines:=hp.ok.ls;have hsm:=En.small hls (by omega);have ha:=Vl z.s.kept.promised z.seen;obtain ⟨a,hea⟩:∃ a,Fj z.s.kept.promised z.seen=a:=⟨_,rfl⟩;rw [hea] at ha;have hal:a.toNat<=281474976710656:=by omega
 have hen:=YI hal hn1 hn3 hid;obtain ⟨e,he⟩:∃ e,PQ a z.id z.n=e:=⟨_,rfl⟩;rw [he] at hen;have he1:1<=e.toNat:=by omega
 have Alk:z.stand=if (z.s.promise e).2=0 then
   ((({ z with s:=(z.s.promise e).1,BB := .stands e ((List.replicate z.n none).set z.id (some (z.s.kept.current,z.s.kept.lines))),waited:=0 }:Am).lead e ((List.replicate z.n none).set z.id (some (z.s.kept.current,z.s.kept.lines)))).1,(z.BN.others fun _=>⟨1,e,0,0,0,[]⟩)++(({ z with s:=(z.s.promise e).1,BB := .stands e ((List.replicate z.n none).set z.id (some (z.s.kept.current,z.s.kept.lines))),waited:=0 }:Am).lead e ((List.replicate z.n none).set z.id (some (z.s.kept.current,z.s.kept.lines)))).2)
  else ({ z with s:=(z.s.promise e).1 },[]):=by
  unfold Am.stand;simp only [hea,he];rw [if_neg (fun h=>by rw [h] at he1;exact absurd he1 (by decide))]
 obtain ⟨R,hR⟩:∃ R,z.stand=R:=⟨_,rfl⟩;rw [hR];rw [Alk] at hR;have hnx:=aG a.toNat z.id z.n hal hn1 hn3 hid;rw [<-hen] at hnx;obtain ⟨ML,rv,hb,hr,hs⟩:=h;obtain ⟨⟨-, -,c2, -⟩, -⟩:=hb.cells;have hkp:=ae (DJ hs hsm);have hmx:max (z.s.kept.promised.toNat:Int) (z.seen.toNat:Int)=(a.toNat:Int):=by omega
 have hez:((e.toNat:Int) == 0)=false:=by
  have:¬ (e.toNat:Int)=0:=by omega
  simpa using this
 have hH:=ae (aI ML (aI hb (aI hr hs)));have hfit:=AcS hp.sp (by omega) hp.kok e;have AeO:=ae hfit;have Aug:=ae hnx;have hP:=ae (aI hp (aI hls (aI hsm he1)));have KI:=ae hR;have AlP:=ae hmx;have hI:=ae (aI hn1 (aI hn3 hid));clear ML hb hr hs hfit hnx hp hls hsm he1 hR Alk hen he hea ha hal hpt hse hn3 hn1 hid hmx;go_enter func98,ntmps98;go_wp2_with fail;refine hkp.out.mono ?_;rintro ex w1 ⟨v1,o1,rfl,hs1,lv,rfl,hl,rfl⟩;obtain ⟨la,lc,rfl⟩:=hl.form;obtain ⟨L,hL⟩:∃ L,z.s.kept.lines.length=L:=⟨_,rfl⟩;have kal:=AB (P:=prog) w1 37 _ OZ;have kst:=MX w1 z.s.kept.promised z.s.kept.current la L lc;have k2:=(aj.refl ai w1 (ext w o)).alloc (.cells (BR z.s.kept.promised z.s.kept.current (.slice la L lc)).toArray 37) (0,0);have kb2:=heap_alloc_new w1 (.cells (BR z.s.kept.promised z.s.kept.current (.slice la L lc)).toArray 37);have ko2:=Au (ext w o) w1.heap.size (0,0);generalize Ak (ext w o) w1.heap.size (0,0)=o2 at *;obtain ⟨W2,hW2⟩:∃ W2,w1.alloc (.cells (BR z.s.kept.promised z.s.kept.current (.slice la L lc)).toArray 37)=W2:=⟨_,rfl⟩;rw [hW2] at kst k2 kb2;obtain ⟨kb,hkb⟩:∃ b,w1.heap.size=b:=⟨_,rfl⟩;rw [hkb] at kal kst kb2 ko2;obtain ⟨V,hV⟩:∃ V,W2.drew=V:=⟨_,rfl⟩;have kV:aj ai W2 o2 V o2:=by rw [<-hV];exact (aj.refl ai W2 o2).drew
 have stV:=(hs1.trans k2).trans kV;have kbV:=(kV.block _ (au kb2) id).trans kb2;have hlV:=(hl.step (k2.trans kV) id).low (Nat.zero_le _);rw [hL] at hlV;have Agf:∀ W O,aj ai V o2 W O->W.cell? ⟨kb,0,none⟩=some (.int .u64 (z.s.kept.promised.toNat:Int))/\W.cell? ⟨pz,5,none⟩=some (.int .u64 (z.seen.toNat:Int))/\W.cell? ⟨pz,0,none⟩=some (.int .i64 (z.id:Int))/\W.cell? ⟨pz,1,none⟩=some (.int .i64 (z.n:Int)):=by
  intro W O hJ;obtain ⟨⟨d0,d1, -, -, -,d5, -⟩, -⟩:=(hH.out.2.1.step (stV.trans hJ) id).cells;have dk:=ag ((hJ.block _ (au kbV) id).trans kbV) 0;simp only [BR,ay] at dk;exact ⟨dk,d5,d0,d1⟩
 have hSH:=ae Agf;have hS2:=Agf V o2 (aj.refl _ _ _);rw [<-hV] at hS2;have hKB:=ae (aI stV (aI kbV (aI hlV (ko2))));have AiS:=ae kal;have AiR:=ae kst;rw [hL];clear hs1 hl kal kst k2 kb2 ko2 hW2 hkb kV stV kbV hlV Agf hkp c2
 go_wp2_with (first
  | ((with_reducible apply AU);exact AiS.out;simp only [Act.put,GL,DL,lss])
  | ((with_reducible apply AC);exact AiR.out;simp only [Act.put]))
 refine Jd (fun a0 a' w'=>∃ (eb:Nat) (oF:Own) (y1 y2 y3 y4 y5 y6 y7 y8 y9 y10 y11 y12 y13 y14 y15 y16:Value),a'=Act.puts a0 [12,13,14,15,16,17,18,19,20,21,22,23,24,25,26,27,4] [y1,y2,y3,y4,y5,y6,y7,y8,y9,y10,y11,y12,y13,y14,y15,y16, .pointer (some ⟨eb,0,none⟩)]/\V.heap.size<=eb/\w'.heap[eb]?=some (.cells [Value.int .u64 (e.toNat:Int)].toArray 34 (0,0))/\(oF eb).1=0/\aj ai V o2 w' oF) ?_ ?_
 ·refine Aa (fun w'=>w'.cell? ⟨kb,0,none⟩=some (.int .u64 (z.s.kept.promised.toNat:Int))/\w'.cell? ⟨pz,5,none⟩=some (.int .u64 (z.seen.toNat:Int))/\w'.cell? ⟨pz,0,none⟩=some (.int .i64 (z.id:Int))/\w'.cell? ⟨pz,1,none⟩=some (.int .i64 (z.n:Int))) (fun _=>true) (by kernel_rfl) hS2 (fun hHeld => ?_);rw [hV] at hHeld ⊢;have hJ:aj ai V o2 V o2:=aj.refl _ _ _;refine tn 0 (h:=tn 1 (h:=tn 2 (h:=tn 3 (h:=tn 4 (h:=tn 5 (h:=tv 6 (.int .u64 (a.toNat:Int)) (hy:=fun w hSw=>by (try dsimp only at hSw);go_simp;exact AlP.out) (hQ:=by exact fun _ _ _ h=>nomatch h.1) (h:=tn 7 (h:=tn 8 (h:=tn 9 (h:=tn 10 (h:=tn 11 (h:=tn 12 (h:=tn 13 (h:=?_))))))))))))));refine tn 14 (h:=?_);refine Gm (i:=15) (j:=16) rfl rfl (by kernel_rfl) ?_ ?_
  ·go_wp2_with fail;refine (Aug.out _).mono ?_;rintro e' w' ⟨rfl,rfl⟩;go_wp2_with fail;refine ⟨fun _=>hHeld, ?_⟩;refine tO 16 (h:=?_);obtain ⟨eb,Agd⟩:∃ b,V.heap.size=b:=⟨_,rfl⟩;have Aif:V.heap.size<=eb:=by rw [<-Agd];exact hJ.size
   have Adu:=(aj.refl ai V o2).alloc (.cells [Value.int .u64 0].toArray 34) (0,0);have heb:=heap_alloc_new V (.cells [Value.int .u64 0].toArray 34);have hov:=Au o2 V.heap.size (0,0);obtain ⟨v21,hw2⟩:∃ x,V.alloc (.cells [Value.int .u64 0].toArray 34)=x:=⟨_,rfl⟩;obtain ⟨p21,ho2⟩:∃ x,Ak o2 V.heap.size (0,0)=x:=⟨_,rfl⟩;rw [hw2,ho2] at Adu;rw [ho2,Agd] at hov;rw [hw2,Agd] at heb;have hrun:(Instr.alloc 34 true (.tuple #[])).run prog V = .ok (.pointer (some ⟨eb,0,none⟩)) v21:=by rw [<-hw2, <-Agd];kernel_rfl
   have Aax:=ae hrun;have hJ:=hJ.trans Adu;have hS:=hSH.out _ _ hJ;clear hrun Adu hw2 ho2 Agd;refine AU Aax.out ?_;refine wpList_nil ?_;simp only [Act.put,GL,DL,lss];refine ⟨fun _=>hS, ?_⟩;refine tO 17 (h:=?_);have ceb:=ag heb 0;have feb:=Ap heb 0;simp only [ay] at ceb;have hJ:=hJ.setCell (a:=⟨eb,0,none⟩) (.int .u64 (e.toNat:Int)) (.inr Aif);have heb:=Ai (i:=0) (.int .u64 (e.toNat:Int)) heb;have hS:=hSH.out _ _ hJ;go_wp2_with fail;refine ⟨fun _=>hS, ?_⟩;refine tD (h:=?_);exact ⟨rfl,eb,p21, .pointer (some ⟨kb,0,none⟩), .int .u64 (z.s.kept.promised.toNat:Int), .pointer (some ⟨pz,0,none⟩), .pointer (some ⟨pz,0,none⟩), .pointer (some ⟨pz,5,none⟩), .int .u64 (z.seen.toNat:Int), .int .u64 (a.toNat:Int), .pointer (some ⟨pz,0,none⟩), .pointer (some ⟨pz,0,none⟩), .pointer (some ⟨pz,0,none⟩), .int .i64 (z.id:Int), .pointer (some ⟨pz,0,none⟩), .pointer (some ⟨pz,0,none⟩), .pointer (some ⟨pz,1,none⟩), .int .i64 (z.n:Int), .int .u64 (e.toNat:Int),by simp only [Act.puts,Act.put,GL,DL,lss],Aif,heb,by rw [hov],hJ⟩
  ·obtain ⟨eb,Agd⟩:∃ b,V.heap.size=b:=⟨_,rfl⟩;have Aif:V.heap.size<=eb:=by rw [<-Agd];exact hJ.size
   have Adu:=(aj.refl ai V o2).alloc (.cells [Value.int .u64 0].toArray 34) (0,0);have heb:=heap_alloc_new V (.cells [Value.int .u64 0].toArray 34);have hov:=Au o2 V.heap.size (0,0);obtain ⟨v21,hw2⟩:∃ x,V.alloc (.cells [Value.int .u64 0].toArray 34)=x:=⟨_,rfl⟩;obtain ⟨p21,ho2⟩:∃ x,Ak o2 V.heap.size (0,0)=x:=⟨_,rfl⟩;rw [hw2,ho2] at Adu;rw [ho2,Agd] at hov;rw [hw2,Agd] at heb;have hrun:(Instr.alloc 34 true (.tuple #[])).run prog V = .ok (.pointer (some ⟨eb,0,none⟩)) v21:=by rw [<-hw2, <-Agd];kernel_rfl
   have Aax:=ae hrun;have hJ:=hJ.trans Adu;have hS:=hSH.out _ _ hJ;clear hrun Adu hw2 ho2 Agd;refine AU Aax.out ?_;refine wpList_nil ?_;simp only [Act.put,GL,DL,lss];refine ⟨fun _=>hS, ?_⟩;refine tO 15 (h:=?_);go_wp2_with fail;refine (Aug.out _).mono ?_;rintro e' w' ⟨rfl,rfl⟩;go_wp2_with fail;refine ⟨fun _=>hS, ?_⟩;refine tO 17 (h:=?_);have ceb:=ag heb 0;have feb:=Ap heb 0;simp only [ay] at ceb;have hJ:=hJ.setCell (a:=⟨eb,0,none⟩) (.int .u64 (e.toNat:Int)) (.inr Aif);have heb:=Ai (i:=0) (.int .u64 (e.toNat:Int)) heb;have hS:=hSH.out _ _ hJ;go_wp2_with fail;refine ⟨fun _=>hS, ?_⟩;refine tD (h:=?_);exact ⟨rfl,eb,p21, .pointer (some ⟨kb,0,none⟩), .int .u64 (z.s.kept.promised.toNat:Int), .pointer (some ⟨pz,0,none⟩), .pointer (some ⟨pz,0,none⟩), .pointer (some ⟨pz,5,none⟩), .int .u64 (z.seen.toNat:Int), .int .u64 (a.toNat:Int), .pointer (some ⟨pz,0,none⟩), .pointer (some ⟨pz,0,none⟩), .pointer (some ⟨pz,0,none⟩), .int .i64 (z.id:Int), .pointer (some ⟨pz,0,none⟩), .pointer (some ⟨pz,0,none⟩), .pointer (some ⟨pz,1,none⟩), .int .i64 (z.n:Int), .int .u64 (e.toNat:Int),by simp only [Act.puts,Act.put,GL,DL,lss],Aif,heb,by rw [hov],hJ⟩
 rintro a3 W3 ⟨eb,o3,y1,y2,y3,y4,y5,y6,y7,y8,y9,y10,y11,y12,y13,y14,y15,y16,rfl,hge,heb,hoe,hJ3⟩;simp only [Act.puts,Act.put,GL,DL,lss];clear hS2 hV;obtain ⟨stV,kbV,hlV,okV⟩:=hKB.out;have st3:=stV.trans hJ3;have kb3:=(hJ3.block _ (au kbV) id).trans kbV;have ok3:(o3 kb).1=0:=by rw [hJ3.own kb (au kbV),okV]
 have hl3:=hlV.step hJ3 id;have dr:aj ai W3 o3 W3.drew o3:=(aj.refl ai W3 o3).drew;have st4:=st3.trans dr;obtain ⟨⟨-, -,c2, -⟩, -⟩:=(hH.out.2.1.step st4 id).cells;have ce:=ag (w:=W3.drew) heb 0;simp only [ay] at ce;have hS3:=aI ce c2;have hpr:=Jb hH.out.1 (hH.out.2.2.2.step0 st4) hP.out.1.sp hP.out.2.2.1 e;have hG:=ae (aI st4 (aI (show W3.drew.heap[kb]?=_ from kb3) (aI (hl3.step dr id) (aI (show W3.drew.heap[eb]?=_ from heb) (aI hoe ok3)))));clear stV kbV hlV okV st3 kb3 ok3 hl3 dr st4 c2 ce heb hoe hJ3 hge hSH hKB;obtain ⟨Q,hQ⟩:∃ Q,z.s.promise e=Q:=⟨_,rfl⟩;simp only [hQ] at hpr AeO KI;have AiZ:=ae hpr;clear hpr
 rcases AeO.out with ⟨s',er,hf2,hf1⟩ | ⟨hf0,s',hf2,hf3,hf4⟩
 ·subst hf2;have hz1:(er == 0)=false:=by simpa using hf1
  have hz2:(er != 0)=true:=by simpa using hf1
  rw [if_neg (show ¬ (s',er).2=0 from hf1)] at KI;clear AeO;go_wp2_with fail;refine Aa (fun w'=>w'.cell? ⟨eb,0,none⟩=some (.int .u64 (e.toNat:Int))/\w'.cell? ⟨pz,2,none⟩=some (.pointer (some ⟨ps,0,none⟩))) (fun _=>true) (by kernel_rfl) hS3 (fun hHeld => ?_);refine tq 0 (h:=tq 1 (h:=tq 2 (h:=tq 3 (h:=tq 4 (h:=tq 5 (h:=tq 6 (h:=tq 7 (h:=tO 8 (h:=?_)))))))));go_wp2_with fail;refine AiZ.out.mono ?_;rintro e' W6 ⟨v6,o6,rfl,hs6,rfl,pW⟩;obtain ⟨st4,kb4,hl4,eb4,oe4,ok4⟩:=hG.out;obtain ⟨ML,hb,hr,hs⟩:=hH.out;have nZ:¬ qG (M+1) (M+2) (M+3) D (M+4):=KC.WZ ML.1 ML.2;have n0:¬ qG (M+1) (M+2) (M+3) D 0:=fun h=>by unfold qG at h;have:=ML.2;omega
  have hb6:=(hb.step st4 id).step hs6 nZ;have hr6:=(hr.step st4 id id).step hs6 nZ n0;have kb6:=(hs6.block kb (au kb4) (by rw [ok4];exact n0)).trans kb4;have eb6:=(hs6.block eb (au eb4) (by rw [oe4];exact n0)).trans eb4;have oe6:(o6 eb).1=0:=by rw [hs6.own eb (au eb4)];exact oe4
  have ok6:(o6 kb).1=0:=by rw [hs6.own kb (au kb4)];exact ok4
  have hl6:=hl4.step hs6 n0;have st6:=(st4.mono (fun _ h=>h.elim)).trans (hs6.mono KC.in4);obtain ⟨⟨-, -,c2, -⟩, -⟩:=hb6.cells;have ce:=ag eb6 0;simp only [ay] at ce;have hS6:=aI ce c2;have hG6:=ae (aI st6 (aI hb6 (aI hr6 (aI kb6 (aI eb6 (aI oe6 (aI ok6 (aI hl6 (aI pW ML)))))))));clear hs6 pW st4 kb4 hl4 eb4 oe4 ok4 ML hb hr hs nZ n0 hb6 hr6 kb6 eb6 oe6 ok6 hl6 st6 c2 ce hHeld;go_wp2_with fail;refine ⟨fun _=>hS6, ?_⟩;refine tq 9 (h:=tq 10 (h:=tD (h:=?_)));clear hS6;go_wp2_with fail;go_ret;obtain ⟨st6,hb6,hr6, -, -, -, -, -,pW,ML⟩:=hG6.out;refine ⟨_,o6,rfl,st6,by rw [<-KI.out];exact Dn.nil _ _, ?_⟩;rw [<-KI.out];exact ⟨ML,rv,hb6,hr6,pW⟩
 ·subst hf2;rw [if_pos rfl] at KI;clear AeO;go_wp2_with fail;refine Aa (fun w'=>w'.cell? ⟨eb,0,none⟩=some (.int .u64 (e.toNat:Int))/\w'.cell? ⟨pz,2,none⟩=some (.pointer (some ⟨ps,0,none⟩))) (fun _=>true) (by kernel_rfl) hS3 (fun hHeld => ?_);refine tq 0 (h:=tq 1 (h:=tq 2 (h:=tq 3 (h:=tq 4 (h:=tq 5 (h:=tq 6 (h:=tq 7 (h:=tO 8 (h:=?_)))))))));go_wp2_with fail;refine AiZ.out.mono ?_;rintro e' W6 ⟨v6,o6,rfl,hs6,rfl,pW⟩;obtain ⟨st4,kb4,hl4,eb4,oe4,ok4⟩:=hG.out;obtain ⟨ML,hb,hr,hs⟩:=hH.out;have nZ:¬ qG (M+1) (M+2) (M+3) D (M+4):=KC.WZ ML.1 ML.2;have n0:¬ qG (M+1) (M+2) (M+3) D 0:=fun h=>by unfold qG at h;have:=ML.2;omega
  have hb6:=(hb.step st4 id).step hs6 nZ;have hr6:=(hr.step st4 id id).step hs6 nZ n0;have kb6:=(hs6.block kb (au kb4) (by rw [ok4];exact n0)).trans kb4;have eb6:=(hs6.block eb (au eb4) (by rw [oe4];exact n0)).trans eb4;have oe6:(o6 eb).1=0:=by rw [hs6.own eb (au eb4)];exact oe4
  have ok6:(o6 kb).1=0:=by rw [hs6.own kb (au kb4)];exact ok4
  have hl6:=hl4.step hs6 n0;have st6:=(st4.mono (fun _ h=>h.elim)).trans (hs6.mono KC.in4);obtain ⟨⟨-, -,c2, -⟩, -⟩:=hb6.cells;have ce:=ag eb6 0;simp only [ay] at ce;have hS6:=aI ce c2;have hG6:=ae (aI st6 (aI hb6 (aI hr6 (aI kb6 (aI eb6 (aI oe6 (aI ok6 (aI hl6 (aI pW ML)))))))));clear hs6 pW st4 kb4 hl4 eb4 oe4 ok4 ML hb hr hs nZ n0 hb6 hr6 kb6 eb6 oe6 ok6 hl6 st6 c2 ce hHeld;go_wp2_with fail;refine ⟨fun _=>hS6, ?_⟩;refine tq 9 (h:=tq 10 (h:=tD (h:=?_)));clear hS6;go_wp2_with fail;obtain ⟨st6,hb6,hr6,kb6,eb6,oe6,ok6,hl6,pW,ML⟩:=hG6.out;obtain ⟨V5,hV5⟩:∃ V,W6.drew=V:=⟨_,rfl⟩;have kD:aj ai W6 o6 V5 o6:=by rw [<-hV5];exact (aj.refl ai W6 o6).drew
  have Agf:∀ W O,aj ai V5 o6 W O->W.cell? ⟨eb,0,none⟩=some (.int .u64 (e.toNat:Int))/\W.cell? ⟨pz,0,none⟩=some (.int .i64 (z.id:Int))/\W.cell? ⟨kb,1,none⟩=some (.int .u64 (z.s.kept.current.toNat:Int))/\W.cell? ⟨kb,2,none⟩=some (.slice la L lc):=by
   intro W O hJ;have hJ:=kD.trans hJ;obtain ⟨⟨d0, -⟩, -⟩:=(hb6.step hJ id).cells;have de:=ag ((hJ.block _ (au eb6) id).trans eb6) 0;have dk:=ag ((hJ.block _ (au kb6) id).trans kb6);have dk1:=dk 1;have dk2:=dk 2;simp only [BR,ay,ax] at de dk1 dk2;exact ⟨de,d0,dk1,dk2⟩
  have hSH:=ae Agf;have hS5:=Agf V5 o6 (aj.refl _ _ _);rw [<-hV5] at hS5;have hVz:w.heap.size<=V5.heap.size:=Nat.le_trans st6.size kD.size;have hKD:=ae (aI kD hVz);clear st6 hb6 hr6 kb6 eb6 oe6 ok6 hl6 pW ML kD Agf hVz;refine Jd (fun a0 a' w'=>∃ (mk sb:Nat) (oF:Own) (y1 y2 y3 y4 y5 y6 y7 y8 y9 y10 y11 y12 y13 y14:Value),a'=Act.puts a0 [39,40,41,42,43,44,45,46,47,48,49,50,51,52,5] [y1,y2,y3,y4,y5,y6,y7,y8,y9,y10,y11,y12,y13,y14, .pointer (some ⟨sb,0,none⟩)]/\V5.heap.size<=mk/\V5.heap.size<=sb/\mk ≠ sb/\w'.heap[mk]?=some (.map (Bd 0 [(z.id,z.s.kept.current,Value.slice la L lc)]).toArray 1)/\w'.heap[sb]?=some (.cells [Value.int .u64 (e.toNat:Int), .map (some mk)].toArray 206 (0,0))/\aj ai V5 o6 w' oF) ?_ ?_
  ·refine Aa (fun w'=>w'.cell? ⟨eb,0,none⟩=some (.int .u64 (e.toNat:Int))/\w'.cell? ⟨pz,0,none⟩=some (.int .i64 (z.id:Int))/\w'.cell? ⟨kb,1,none⟩=some (.int .u64 (z.s.kept.current.toNat:Int))/\w'.cell? ⟨kb,2,none⟩=some (.slice la L lc)) (fun _=>true) (by kernel_rfl) hS5 (fun hHeld => ?_);rw [hV5] at hHeld ⊢;have hJ:aj ai V5 o6 V5 o6:=aj.refl _ _ _;refine tn 0 (h:=tn 2 (h:=tn 3 (h:=tn 4 (h:=tn 5 (h:=tn 6 (h:=tn 7 (h:=tn 8 (h:=tn 9 (h:=tn 10 (h:=tO 1 (h:=?_)))))))))));obtain ⟨mk,AnQ⟩:∃ b,V5.heap.size=b:=⟨_,rfl⟩;have AoY:V5.heap.size<=mk:=by rw [<-AnQ];exact hJ.size
   have Adu:=(aj.refl ai V5 o6).alloc (.map (Bd 0 []).toArray 0) (0,0);have Aqt:(V5.alloc (.map (Bd 0 []).toArray 0)).heap[V5.heap.size]?=some (.map (Bd 0 []).toArray 0):=heap_alloc_new V5 (.map (Bd 0 []).toArray 0);obtain ⟨v21,hw2⟩:∃ x,V5.alloc (.map (Bd 0 []).toArray 0)=x:=⟨_,rfl⟩;obtain ⟨p21,ho2⟩:∃ x,Ak o6 V5.heap.size (0,0)=x:=⟨_,rfl⟩;rw [hw2,ho2] at Adu;rw [hw2,AnQ] at Aqt;have hrun:(Instr.makeMap 204 none).run prog V5 = .ok (.map (some mk)) v21:=by rw [<-hw2, <-AnQ];exact QF V5
   have Aax:=ae hrun;have hmk:=Aqt;have hJ:=hJ.trans Adu;have hS:=hSH.out _ _ hJ;clear hrun Aqt Adu hw2 ho2 AnQ;refine Iq Aax.out ?_;refine wpList_nil ?_;simp only [Act.put,GL,DL,lss];refine ⟨fun _=>hS, ?_⟩;refine tO 11 (h:=?_);have hrun:=Md (es:=[]) hmk (k:=z.id) (fun x hx=>by simp at hx) z.s.kept.current (.slice la L lc);simp only [List.nil_append,List.length_singleton] at hrun;have Auq:=au hmk;have hJ:=hJ.DR mk (.map (Bd 0 [(z.id,z.s.kept.current,Value.slice la L lc)]).toArray 1) (.inr AoY);have hmk:=Ot (w:=v21) (mb:=mk) (ob := .map (Bd 0 [(z.id,z.s.kept.current,Value.slice la L lc)]).toArray 1) Auq;obtain ⟨v22,hw2⟩:∃ x,(DR v21 mk (.map (Bd 0 [(z.id,z.s.kept.current,Value.slice la L lc)]).toArray 1))=x:=⟨_,rfl⟩;rw [hw2] at hrun hJ hmk;have Aax:=ae hrun;have hS:=hSH.out _ _ hJ;clear hrun hw2 Auq;refine Ji Aax.out ?_;refine wpList_nil ?_;simp only [Act.put];refine ⟨fun _=>hS, ?_⟩;refine tn 12 (h:=tn 13 (h:=tO 14 (h:=?_)));obtain ⟨sb,Alt⟩:∃ b,v22.heap.size=b:=⟨_,rfl⟩;have AuV:V5.heap.size<=sb:=by rw [<-Alt];exact hJ.size
   have AnN:mk ≠ sb:=by have:=au hmk;rw [<-Alt];omega
   have Ack:=(aj.refl ai v22 p21).alloc (.cells [Value.int .u64 (e.toNat:Int), .map (some mk)].toArray 206) (0,0);have ApX:(v22.alloc (.cells [Value.int .u64 (e.toNat:Int), .map (some mk)].toArray 206)).heap[v22.heap.size]?=some (.cells [Value.int .u64 (e.toNat:Int), .map (some mk)].toArray 206 (0,0)):=heap_alloc_new v22 (.cells [Value.int .u64 (e.toNat:Int), .map (some mk)].toArray 206);obtain ⟨v23,hw2⟩:∃ x,v22.alloc (.cells [Value.int .u64 (e.toNat:Int), .map (some mk)].toArray 206)=x:=⟨_,rfl⟩;obtain ⟨p23,ho2⟩:∃ x,Ak p21 v22.heap.size (0,0)=x:=⟨_,rfl⟩;rw [hw2,ho2] at Ack;rw [hw2,Alt] at ApX;have hrun:(Instr.box 206 (.agg #[Value.int .u64 (e.toNat:Int), .map (some mk)])).run prog v22 = .ok (.pointer (some ⟨sb,0,none⟩)) v23:=by rw [<-hw2, <-Alt];kernel_rfl
   have Aax:=ae hrun;have hmk:=(Ack.block _ (au hmk) id).trans hmk;have hsb:=ApX;have hJ:=hJ.trans Ack;have hS:=hSH.out _ _ hJ;clear hrun ApX Ack hw2 ho2 Alt;refine BM Aax.out ?_;refine wpList_nil ?_;simp only [Act.put,GL,DL,lss];refine ⟨fun _=>hS, ?_⟩;refine tn 15 (h:=tD (h:=?_));exact ⟨rfl,mk,sb,p23, .int .u64 (e.toNat:Int), .map (some mk), .pointer (some ⟨pz,0,none⟩), .pointer (some ⟨pz,0,none⟩), .pointer (some ⟨pz,0,none⟩), .int .i64 (z.id:Int), .pointer (some ⟨kb,1,none⟩), .int .u64 (z.s.kept.current.toNat:Int), .pointer (some ⟨kb,2,none⟩), .slice la L lc, .agg #[Value.int .u64 (z.s.kept.current.toNat:Int), .slice la L lc], .map (some mk), .agg #[Value.int .u64 (e.toNat:Int), .map (some mk)], .pointer (some ⟨sb,0,none⟩),by simp only [Act.puts,Act.put,GL,DL,lss],AoY,AuV,AnN,hmk,hsb,hJ⟩
  rintro a7 W7 ⟨mk,sb,o7,y1,y2,y3,y4,y5,y6,y7,y8,y9,y10,y11,y12,y13,y14,rfl,hgm,hgs,hne,hmk,hsb,hJ7⟩;simp only [Act.puts,Act.put,GL,DL,lss];clear hS5 hV5 hSH;obtain ⟨oG,hoG⟩:∃ oG:Own,oG=fun k=>if k=sb then (M+4,1) else if k=mk then (M+4,2) else o7 k:=⟨_,rfl⟩
  have hJ:aj ai V5 o6 W7 oG:=hJ7.Me oG (fun k hk=>by rw [hoG];show (if k=sb then _ else if k=mk then _ else _)=_;rw [if_neg (by omega),if_neg (by omega)];exact hJ7.own k hk)
  have gsb:oG sb=(M+4,1):=by rw [hoG];exact if_pos rfl
  have gmk:oG mk=(M+4,2):=by rw [hoG];show (if mk=sb then _ else if mk=mk then _ else _)=_;rw [if_neg hne,if_pos rfl]
  obtain ⟨st6,hb6,hr6,kb6,eb6,oe6,ok6,hl6,pW,ML⟩:=hG6.out;obtain ⟨kD,hVz⟩:=hKD.out;have k7:=kD.trans hJ;have hb7:=hb6.step k7 id;have eb7:=(k7.block eb (au eb6) id).trans eb6;have oe7:(oG eb).1=0:=by rw [k7.own eb (au eb6)];exact oe6
  have wY:=hl6.step k7 id;have qF:=pW.step0 k7;have st7:=st6.trans (k7.mono (fun _ h=>h.elim));have hpz:pz<V5.heap.size:=Nat.lt_of_lt_of_le (au hb6.1) kD.size;have nsb:sb ≠ pz:=by omega
  have nmk:mk ≠ pz:=by omega
  have neb:eb ≠ pz:=fun h=>by rw [h,hb7.2] at oe7;exact absurd oe7 (by simp)
  have b8a:=Ai (i:=3) (.iface 201 (.pointer (some ⟨sb,0,none⟩))) hb7.1;have b8:=Ai (i:=4) (.int .i64 0) b8a;have sb8:=(Below.heap_setCell (W7.setCell ⟨pz,3,none⟩ (.iface 201 (.pointer (some ⟨sb,0,none⟩)))) ⟨pz,4,none⟩ (.int .i64 0) sb nsb).trans ((Below.heap_setCell W7 ⟨pz,3,none⟩ (.iface 201 (.pointer (some ⟨sb,0,none⟩))) sb nsb).trans hsb);have mk8:=(Below.heap_setCell (W7.setCell ⟨pz,3,none⟩ (.iface 201 (.pointer (some ⟨sb,0,none⟩)))) ⟨pz,4,none⟩ (.int .i64 0) mk nmk).trans ((Below.heap_setCell W7 ⟨pz,3,none⟩ (.iface 201 (.pointer (some ⟨sb,0,none⟩))) mk nmk).trans hmk);have eb8:=(Below.heap_setCell (W7.setCell ⟨pz,3,none⟩ (.iface 201 (.pointer (some ⟨sb,0,none⟩)))) ⟨pz,4,none⟩ (.int .i64 0) eb neb).trans ((Below.heap_setCell W7 ⟨pz,3,none⟩ (.iface 201 (.pointer (some ⟨sb,0,none⟩))) eb neb).trans eb7);have k8:=((aj.refl (ak (M+4)) W7 oG).setCell (a:=⟨pz,3,none⟩) (.iface 201 (.pointer (some ⟨sb,0,none⟩))) (.inl (by show (oG pz).1=_;rw [hb7.2]))).setCell (a:=⟨pz,4,none⟩) (.int .i64 0) (.inl (by show (oG pz).1=_;rw [hb7.2]));have n4:¬ ak (M+4) 0:=fun h=>by unfold ak at h;omega
  have hl8:=wY.step k8 n4;have AuB:Lines _ oG 0 (.slice la L lc) z.s.kept.lines:=hl8;have hsn:Qx _ oG D M pz ps pd sb ({ z with s:=s',BB := .stands e ((List.replicate z.n none).set z.id (some (z.s.kept.current,z.s.kept.lines))),waited:=0 }:Am) e ((List.replicate z.n none).set z.id (some (z.s.kept.current,z.s.kept.lines))):=
   ⟨ML,⟨b8,hb7.2⟩,⟨mk,sb8,gsb,dZ mk8 gmk hI.out.2.2 AuB⟩,qF.step k8 (KC.self ML.1)⟩
  have st8:=st7.trans (k8.mono (fun k h=>by cases h;exact KC.own));obtain ⟨⟨-, -, -,c3,c4, -⟩,hfr, -⟩:=hb7.cells;have f3:=hfr 3;have f4:=hfr 4;have hnp:=Am.NP.stands hP.out.1 hf3 hf0 hf4 hP.out.2.2.2 0;have hot:=LH (hsn.node rfl) hI.out.2.1 139 #[.pointer (some ⟨eb,0,none⟩)] (fun _=>⟨1,e,0,0,0,[]⟩) Tryz.call139 (fun w1 o1 hs i _ _=>WI i ((hs.block _ (au eb8) id).trans eb8)) (fun i _ _=>Aj.Rz hP.out.2.2.2 (Jf hf0).2);rw [Ov (a:=({ z with s:=s',BB := .stands e ((List.replicate z.n none).set z.id (some (z.s.kept.current,z.s.kept.lines))),waited:=0 }:Am).BN) (b:=z.BN) rfl rfl] at hot;have AhS:=ae hot;have h8:=ae (aI st8 hsn);have Azg:=ae hnp;have hal:=Am.Xg (z:=({ z with s:=s',BB := .stands e ((List.replicate z.n none).set z.id (some (z.s.kept.current,z.s.kept.lines))),waited:=0 }:Am)) (e:=e) (x:=(z.s.kept.current,z.s.kept.lines)) hI.out.2.2;have Adh:=ae hal;clear st6 hb6 hr6 kb6 eb6 oe6 ok6 hl6 pW ML kD hVz k7 hb7 eb7 oe7 wY qF st7 hpz nsb nmk neb b8a b8 sb8 mk8 eb8 k8 n4 hl8 AuB hsn st8 hfr hnp hot hal hJ hJ7 hoG gsb gmk hmk hsb hne hgm hgs;go_wp2_with fail;refine AhS.out.mono ?_;rintro e' w9 ⟨v9,o9,rfl,hs9,hou⟩;obtain ⟨st8,hsn⟩:=h8.out;have Atu:Qx w9 o9 D M pz ps pd sb _ e _:=⟨hsn.1,hsn.2.1.step hs9 id,hsn.2.2.1.step hs9 id id,hsn.2.2.2.step0 hs9⟩;have hle:=ae (lead_any Atu rfl Azg.out (by omega) hB);have h9:=ae (aI (st8.trans (hs9.mono (fun _ h=>h.elim))) hou);obtain ⟨xa,xc,rfl⟩:=hou.form;clear hs9 hou AhS hsn Atu st8 c3 c4 f3 f4;go_wp2_with fail;refine hle.out.mono ?_;rintro e' w10 ⟨v10,o10,rfl,hs10,Aqq,Aum⟩;rw [Adh.out] at Aqq;obtain ⟨ya,yc,rfl⟩:=Aqq.form;have n0:¬ KC D M 0:=KC.zero hH.out.1.2;have AlH:=h9.out.2.step hs10 n0;have hap:=OJ AlH (by
   have hlt:(z.BN.others fun _=>(⟨1,e,0,0,0,[]⟩:BG)).length<=z.n:=by
    unfold Aj.others;rw [List.length_map];exact Nat.le_trans (List.length_filter_le _ _) (by rw [List.length_range];exact Nat.le_refl _)
   have:=hI.out.2.1;unfold Ed;rw [List.length_map];omega) (a':=ya) (c':=yc)
  have xK:=ae hap;have h10:=ae (aI (h9.out.1.trans hs10) (aI AlH Aum));clear hs10 Aqq Aum AlH hap hle
  go_wp2_with ((with_reducible apply Bl);exact xK.out;simp only [Act.put,GL,DL,lss])
  go_ret;refine ⟨_,o10,rfl,h10.out.1, ?_, ?_⟩
  ·rw [<-KI.out];show Dn _ _ _ (Ed (_++_));rw [Adh.out,List.append_nil];exact h10.out.2.1
  ·rw [<-KI.out];exact h10.out.2.2

end Go.Proofs.YtffkdillijmamaaGreat
