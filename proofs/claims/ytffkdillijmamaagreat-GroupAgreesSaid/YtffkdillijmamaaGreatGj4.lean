/- Laws on rows: bytes appended to a row, a record appended to a log's records. -/
import Derived.Lib.SlBytesConst
import Derived.Test.YtffkdillijmamaaGreatGj1
import Derived.Test.YtffkdillijmamaaGreatGj3
namespace Go.Proofs.YtffkdillijmamaaGreat
open Go.Proofs.Tryz
set_option maxRecDepth 100000
set_option maxHeartbeats 6400000
open Go Go.RowKit
theorem Qu (W:World) {base:Nat}(a2:base<=W.heap.size) {v:Value}{n:Nat}{xs:List UInt8}(q:W.ownsRow base 5 1 v n (bvs xs)) {o:Own}{F:Value}{l:List UInt8}(hy:Bytes W o F l) (a3:n+l.length<=1000000000) :
  ∃ J w',(Builtin.append_ #[29,29] 29 #[v,F]).run prog W = .ok J w'/\w'.ownsRow base 5 1 J (n+l.length) (bvs (xs++l))/\W.grownBy w' v.ownBlock:=by
 have O:W.grownBy W v.ownBlock:=⟨rfl,rfl,rfl,Nat.le_refl _,fun _ _ _=>rfl⟩;obtain ⟨U,u,rfl⟩:=BA q;have Y:n<=u:=by
  rcases q.2 with ⟨r,E⟩ | ⟨g,cap,cur,r,_,_,E,h3,_⟩
  ·simp only [Value.slice.injEq] at r;omega
  ·simp only [Value.slice.injEq] at r;omega
 rcases hy.cases with ⟨⟨a,c,rfl⟩,rfl⟩ | ⟨b,off,cap,rfl,hc,hm,ho,hb,hr⟩
 ·exact ⟨_,W,CB (P:=prog) W 29 29 5 1 underlying29 (by kernel_rfl) U a n u c Y om,by simpa using q,O⟩
 ·by_cases h0:l.length=0
  ·have hl:l=[]:=List.eq_nil_of_length_eq_zero h0;subst hl;exact ⟨_,W,CB (P:=prog) W 29 29 5 1 underlying29 (by kernel_rfl) U (some ⟨b,off,none⟩) n u cap Y om,by simpa using q,O⟩
  ·obtain ⟨g,a4,w',r,E,h3,_⟩:=Es W a2 _ n xs q b off l.length cap l rfl hr om a3;exact ⟨_,w',r,E,h3⟩
theorem BZ.append {W:World}{o:Own}{L p pd:Nat}{m:Ad}(hl:BZ W o L p pd m) (hL:L ≠ 0) {O:Nat}{x:Value}{r:List UInt8}(a9:W.heap[O]?=some (.cells #[x] 29 (0,0))) (E:Bytes W o x r) (b1:Mine W o x) (k:Nat) (b2:({ m with records:=m.records++[r],end':=k }:Ad).wf) :
  ∃ rv F q U,W.cell? ⟨p,6,none⟩=some rv/\(∃ a c,rv = .slice a m.records.length c)/\(Builtin.append_ #[181,181] 181 #[rv, .slice (some ⟨O,0,none⟩) 1 1]).run prog W = .ok F q/\(∃ a c,F = .slice a (m.records.length+1) c) /\
   aj (ak L) W o q U/\q.heap[p]?=W.heap[p]?/\aj (ak L) W o ((q.setCell ⟨p,6,none⟩ F).setCell ⟨p,5,none⟩ (.int .i64 (k:Int))) U /\
   BZ ((q.setCell ⟨p,6,none⟩ F).setCell ⟨p,5,none⟩ (.int .i64 (k:Int))) U L p pd { m with records:=m.records++[r],end':=k }:=by
 have hw:=hl.wf;have a4:¬ ak L 0:=fun h=>hL h.symm;obtain ⟨rv,vs,hp,a5,hv,Y,wI, -⟩:=hl;have b3:W.cell? ⟨p,6,none⟩=some rv:=ag hp 6;obtain ⟨xa,xc,rfl⟩:=Aq E;obtain ⟨_,g2,g3,_,g5,g6,_⟩:=hw;obtain ⟨g,cap,q,b4,b5,a6,J,b6⟩:=FU W (Nat.zero_le _) _ _ _ a5 O _ rfl (AV (cs:=[.slice xa r.length xc]) a9) om;have wS:=au hp;have a7:o g=(L,1) \/ W.heap.size<=g:=by
  rcases J with J | J
  ·exact .inl (wI g J)
  ·exact .inr om
 have a2:aj (ak L) W o q (Ak o g (L,1)):=(aj.refl (ak L) W o).grown a6 (fun k u => .inl (by rw [wI k u];rfl)) g (L,1) a7;have xX:p ≠ g:=by
  rintro rfl
  rcases a7 with h1 | h1
  ·rw [Y] at h1;simp at h1
  ·omega
 have a8:q.heap[p]?=W.heap[p]?:=a6.block p wS (by intro E;have:=wI p E.symm;rw [Y] at this;simp at this);have yK:=(hv.snoc E b1).step a2 a4;have a3:Ak o g (L,1) p=(L,0):=by rw [BI _ _ xX];exact Y
 have vF:aj (ak L) q (Ak o g (L,1)) ((q.setCell ⟨p,6,none⟩ (.slice (some ⟨g,0,none⟩) (m.records.length+1) cap)).setCell ⟨p,5,none⟩ (.int .i64 (k:Int))) (Ak o g (L,1)):=
  ((aj.refl (ak L) q (Ak o g (L,1))).setCell (a:=⟨p,6,none⟩) _ (.inl (by show (Ak o g (L,1) p).1=L;rw [a3]))).setCell (a:=⟨p,5,none⟩) _ (.inl (by show (Ak o g (L,1) p).1=L;rw [a3]))
 refine ⟨rv,_,q,Ak o g (L,1),b3,BA a5,b4,⟨_,_,rfl⟩,a2,a8,a2.trans vF, ?_⟩;refine ⟨.slice (some ⟨g,0,none⟩) (m.records.length+1) cap,vs++[.slice xa r.length xc], ?_, ?_,yK.step vF a4,a3, ?_,b2⟩
 ·have:=Ai (i:=5) (.int .i64 (k:Int)) (Ai (i:=6) (.slice (some ⟨g,0,none⟩) (m.records.length+1) cap) (a8.trans hp));exact this
 ·have:(m.records++[r]).length=m.records.length+1:=by simp
  show World.ownsRow _ 0 29 1 _ (m.records++[r]).length _;rw [this];refine Ci b5 fun k u => ?_;simp only [Value.ownBlock,Option.some.injEq] at u;subst u;rw [Below.heap_setCell _ _ _ _ (Ne.symm xX),Below.heap_setCell _ _ _ _ (Ne.symm xX)]
 ·intro k u;simp only [Value.ownBlock,Option.some.injEq] at u;subst u;exact Au _ _ _
attribute [local go_sem ↓] Go.wp_at_zero Go.wp_at_succ
def Qy (w:World) (o:Own) (v:Value) (ls:List AA):Prop:=∃ b off cap bvs,v = .slice (some ⟨b,off,none⟩) ls.length cap/\ls.length<=cap/\cap<=maxLen/\(o b).1=0/\b<w.heap.size/\Ey w o bvs (ls.map AA.bytes) /\
 ∀ (i:Nat) x bv,ls[i]?=some x->bvs[i]?=some bv->w.rangeAt b (off+i*4) (BQ x bv)
theorem Qy.step {T:Nat->Prop}{w w':World}{o o':Own}{v:Value}{ls:List AA}(h:Qy w o v ls) (s:aj T w o w' o') (q:¬ T 0):Qy w' o' v ls:=by
 obtain ⟨b,off,cap,bvs,hv,u,E,r,h4,F,J⟩:=h;exact ⟨b,off,cap,bvs,hv,u,E,by rw [s.own b h4];exact r,Nat.lt_of_lt_of_le h4 s.size,F.step s q,fun i x bv O hb=>Cf (J i x bv O hb) (s.block b h4 (by rw [r];exact q))⟩
theorem Qy.at {w:World}{o:Own}{v:Value}{ls:List AA}(h:Qy w o v ls):∃ b off cap,v = .slice (some ⟨b,off,none⟩) ls.length cap/\ls.length<=cap/\cap<=maxLen /\
  ∀ i x,ls[i]?=some x->∃ bv,Bytes w o bv x.bytes/\w.rangeAt b (off+i*4) (BQ x bv):=by
 obtain ⟨b,off,cap,bvs,hv,E,F,O,h4,r,J⟩:=h;refine ⟨b,off,cap,hv,E,F,fun i x q => ?_⟩;have u:i<bvs.length:=by rw [r.1,List.length_map];exact (List.getElem?_eq_some_iff.1 q).1
 exact ⟨bvs[i],r.2 i _ _ (List.getElem?_eq_getElem u) (by rw [List.getElem?_map,q];rfl),J i x _ q (List.getElem?_eq_getElem u)⟩
def endOf (p n:Nat) (w:World):Nat:=match w.cell? ⟨p,5,none⟩ with
 | some (.int _ e)=>n - e.toNat
 | _=>0
theorem TF {w:World}{b off:Nat}{x:AA}{bv:Value}(q:w.rangeAt b off (BQ x bv)):(Instr.loadAt 238 (.pointer (some ⟨b,off,none⟩))).run prog w = .ok (.agg (BQ x bv).toArray) w:=by
 simp only [Instr.loadAt,Instr.sureAddr,Sem.run_bind,Sem.run_pure,Result.andThen_ok];exact run_loadVar_mid w b off 238 (BQ x bv) _ q underlying238 rfl (by kernel_rfl)
theorem Zp:((prog.info? 238).bind (·.zero)).map (·.cells)=some #[.int .u64 0, .int .i64 0, .int .i64 0, .slice none 0 0]:=by kernel_rfl
theorem IK {w:World}{o:Own}{x:AA}{bv:Value}(h:Bytes w o bv x.bytes):(BQ x bv).all (·.oneCell')=true:=by
 obtain ⟨a,c,rfl⟩:=Aq h;rfl
section
variable {w:World}{o:Own}{L p pd:Nat}{m:Ad}
theorem YL (hL:L ≠ 0) (h:BZ w o L p pd m) (ls:List AA) (lv:Value) (hlv:Qy w o lv ls) (h1:1<=ls.length) (hn:ls.length<=m.n) (hb:∀ x ∈ ls,x.bytes.length<=480/\x.of'<65536/\x.at'<65536) (he:m.end'=1) (hrs:m.records=[]) :
  Calls prog 172 #[.pointer (some ⟨p,0,none⟩),lv] w (XL (ak L) w o fun v w' o'=>v = .tuple #[]/\BZ w' o' L p pd { m with records:=(Ad.readAll ls).2.2,end':=(Ad.readAll ls).1 }):=by
 have hN:¬ ak L 0:=fun h=>hL h.symm;obtain ⟨g1,g2,g3, -⟩:=h.wf;obtain ⟨b,off,cap,rfl,hcap,hcm,d4⟩:=hlv.at;obtain ⟨x0,b3⟩:∃ x0,ls[0]?=some x0:=⟨_,List.getElem?_eq_getElem om⟩;obtain ⟨bv0,AzU,e7⟩:=d4 0 x0 b3;have c00:=e7 0 _ rfl;simp only [Nat.zero_mul,Nat.add_zero] at c00;have e8:Ad.AaJ ls=x0.stamp:=by
  cases ls with
  | nil=>simp at b3
  | cons y r=>simp only [ay,Option.some.injEq] at b3;subst b3;rfl
 obtain ⟨N,hNl⟩:=az (ls.length);have j0:=ae d4;have e9:=ae hlv;have xZ:=ae hb;have b4:=ae hNl;have f0:Hid (Ad.readAll ls=Ad.Eb ls N (1,x0.stamp,[])):=ae (by unfold Ad.readAll;rw [e8,hNl]);have hl0:BZ w o L p pd { m with records:=[],end':=1 }:=by
  have:({ m with records:=[],end':=1 }:Ad)=m:=by cases m;simp only at he hrs;subst he;subst hrs;rfl
  rw [this];exact h
 rw [hNl] at h1 hn hcap e9 ⊢;have j1:(cap:Int)<=9223372036854775807:=by simp only [maxLen] at hcm;omega
 have j2:(N:Int)<=(cap:Int):=om
 have hN2:(N:Int)<=2000:=om
 have j3:(0:Int)<(N:Int):=om
 clear d4 hlv hb hNl e7 AzU e8 b3 h he hrs hcm;go_enter func172,ntmps172;go_wp2_with fail
 go_loopw [4] (fun s4 wr=>∃ (f e:Nat) (last:BitVec 64) (E:List (List UInt8)) (o':Own),s4 = .int .u64 (last.toNat:Int)/\aj (ak L) w o wr o'/\BZ wr o' L p pd { m with records:=E,end':=e }/\N - e<=f/\1<=e/\e<=N/\Hid (Ad.Eb ls N (1,x0.stamp,[])=Ad.Eb ls f (e,last,E)))
  (fun _ wr=>endOf p N wr)
 case atStart=>exact ⟨N,1,x0.stamp,[],o,rfl,aj.refl _ _ _,hl0,om,Nat.le_refl _,h1,ae rfl⟩
 case round =>
  obtain ⟨f,e,last,E,o1,rfl,c4,hl,hf,j4,heN,hR⟩:=hrel;clear hl0 c00;have vY:=hl.held;obtain ⟨-, -, -, -, -,d5, -⟩:=vY;simp only at d5;have d5e:endOf p N wr=N - e:=by unfold endOf;rw [d5];simp
  have h7:=ae d5e;clear d5e
  by_cases hlt:e<N
  ·obtain ⟨x,hx⟩:∃ x,ls[e]?=some x:=⟨_,List.getElem?_eq_getElem (by rw [b4.out];exact hlt)⟩;have d6:=e9.out.step c4 hN;obtain ⟨b',off',cap',Y, -, -,hat'⟩:=d6.at;simp only [Value.slice.injEq,Option.some.injEq,Addr.mk.injEq] at Y;obtain ⟨⟨rfl,rfl, -⟩, -,rfl⟩:=Y;obtain ⟨bv,d7,hr⟩:=hat' e x hx;have BfA:=ae hat';obtain ⟨j5,hxo,j6⟩:=xZ.out x (List.mem_of_getElem? hx);have hld:=ae (TF hr);have a3:=ae (AB (P:=prog) wr 238 _ Zp);have hsw:=Be wr #[.int .u64 0, .int .i64 0, .int .i64 0, .slice none 0 0] 238 (BQ x bv) rfl;obtain ⟨hso, -⟩:=Ba (P:=prog) (ty:=238) (vs:=BQ x bv) (heap_alloc_new wr (.cells [.int .u64 0, .int .i64 0, .int .i64 0, .slice none 0 0].toArray 238)) rfl (by kernel_rfl) (IK d7);rw [hsw] at hso;have a4:=ae hso;have a7:=(aj.refl ai wr o1).alloc (.cells (BQ x bv).toArray 238) (0,0);have hxb:(wr.alloc (.cells (BQ x bv).toArray 238)).heap[wr.heap.size]?=some (.cells (BQ x bv).toArray 238 (0,0)):=heap_alloc_new wr _;have c6:Ak o1 wr.heap.size (0,0) wr.heap.size=(0,0):=Au _ _ _;have c7:=hl.step a7 id id;have hlv2:=d6.step a7 id;have d8:=d7.step a7 id;have hst1:=c4.trans (a7.only L);have j7:(e:Int)<(N:Int):=om
   have hxH:=ae hx;clear hsw hso hat' d6 hr d7 hx
   go_wp2_with (first
    | ((with_reducible apply Bo);exact hld.out;simp only [Act.put,GL,DL,lss])
    | ((with_reducible apply AU);exact a3.out;simp only [Act.put,GL,DL,lss])
    | ((with_reducible apply AC);exact a4.out;simp only [Act.put]))
   obtain ⟨W1,f1⟩:=az (wr.alloc (.cells (BQ x bv).toArray 238));have f2:∀ (w':World) (o':Own),aj (ak L) w o w' o'->BZ w' o' L p pd { m with records:=E,end':=e }->Ad.accept ls e last=none ->
     XL (ak L) w o (fun v w' o'=>v = .tuple #[]/\BZ w' o' L p pd { m with records:=(Ad.readAll ls).2.2,end':=(Ad.readAll ls).1 }) (.returned (.tuple #[])) w':=fun w' o' hs hl F=>by
    rw [f0.out,hR.out,Ad.Gp (s:=(e,last,E)) F];exact ⟨_,o',rfl,hs,rfl,hl⟩
   have a8:=ae f2;clear f2;rw [f1] at a7 hxb c7 hlv2 d8 hst1 ⊢;generalize Ak o1 wr.heap.size (0,0)=O at *;obtain ⟨u,d9⟩:=az (wr.heap.size);have j8:w.heap.size<=u:=by rw [<-d9];exact c4.size
   rw [d9] at hxb c6 ⊢;clear f1 d9 hld a3 a4 a7 d5;have y0:=ag hxb 0;have y2:=ag hxb 2;simp only [BQ,ay,ax] at y0 y2;have vY:=c7.held;obtain ⟨-, -, -, -, -,d5, -⟩:=vY;simp only at d5;have hdr:aj ai W1 O W1.drew O:=(aj.refl _ _ _).drew;have b7:=hst1.trans (hdr.only L);have hl2:=c7.step hdr id id;have BcA:(N:Int) - (e:Int)=((N - e:Nat):Int):=om
   have j9:¬ (N<=e):=om
   by_cases hA:x.stamp.toNat<=last.toNat
   ·have F:Ad.accept ls e last=none:=by unfold Ad.accept;rw [hxH.out];simp only;rw [if_pos (.inl hA)]
    have hAi:(x.stamp.toNat:Int)<=(last.toNat:Int):=om
    have Aij:=ae F;clear F;refine Aa (fun w'=>w'.cell? ⟨u,0,none⟩=some (.int .u64 (x.stamp.toNat:Int))/\w'.cell? ⟨u,2,none⟩=some (.int .i64 (x.of':Int))/\w'.cell? ⟨p,5,none⟩=some (.int .i64 (e:Int))) (fun _=>true) (by kernel_rfl) ⟨y0,y2,d5⟩ (fun hHeld => ?_);refine tq 0 (h:=tq 1 (h:=tq 2 (h:=tq 3 (h:=tq 4 (h:=ts 5 (h:=ts 6 (h:=ts 7 (h:=tq 8 (h:=tq 9 (h:=ts 10 (h:=ts 11 (h:=ts 12 (h:=ts 13 (h:=?_))))))))))))));refine ts 14 (h:=ts 15 (h:=ts 16 (h:=ts 17 (h:=ts 18 (h:=ts 19 (h:=tq 20 (h:=tD (h:=?_))))))));go_wp2_with fail
    (try simp only [Exit.inBlock,Exit.then]);refine bodyPost_ret (results_none rfl _ _ _) rfl ?_
    exact a8.out _ O b7 hl2 Aij.out
   by_cases hB:x.of'<1
   ·have F:Ad.accept ls e last=none:=by unfold Ad.accept;rw [hxH.out];simp only;rw [if_pos (.inr (.inl hB))]
    have hAi:¬ (x.stamp.toNat:Int)<=(last.toNat:Int):=om
    have hBi:(x.of':Int)<1:=om
    have Aij:=ae F;clear F;refine Aa (fun w'=>w'.cell? ⟨u,0,none⟩=some (.int .u64 (x.stamp.toNat:Int))/\w'.cell? ⟨u,2,none⟩=some (.int .i64 (x.of':Int))/\w'.cell? ⟨p,5,none⟩=some (.int .i64 (e:Int))) (fun _=>true) (by kernel_rfl) ⟨y0,y2,d5⟩ (fun hHeld => ?_);refine tq 0 (h:=tq 1 (h:=tq 2 (h:=tq 3 (h:=tq 4 (h:=tq 5 (h:=tq 6 (h:=tq 7 (h:=tq 8 (h:=tq 9 (h:=ts 10 (h:=ts 11 (h:=ts 12 (h:=ts 13 (h:=?_))))))))))))));refine ts 14 (h:=ts 15 (h:=ts 16 (h:=ts 17 (h:=ts 18 (h:=ts 19 (h:=tq 20 (h:=tD (h:=?_))))))));go_wp2_with fail
    (try simp only [Exit.inBlock,Exit.then]);refine bodyPost_ret (results_none rfl _ _ _) rfl ?_
    exact a8.out _ O b7 hl2 Aij.out
   by_cases hC:N - e<x.of'
   ·have F:Ad.accept ls e last=none:=by unfold Ad.accept;rw [hxH.out];simp only;rw [if_pos (.inr (.inr (by rw [b4.out];exact hC)))]
    have hAi:¬ (x.stamp.toNat:Int)<=(last.toNat:Int):=om
    have hBi:¬ (x.of':Int)<1:=om
    have c8:((N - e:Nat):Int)<(x.of':Int):=om
    have Aij:=ae F;clear F;refine Aa (fun w'=>w'.cell? ⟨u,0,none⟩=some (.int .u64 (x.stamp.toNat:Int))/\w'.cell? ⟨u,2,none⟩=some (.int .i64 (x.of':Int))/\w'.cell? ⟨p,5,none⟩=some (.int .i64 (e:Int))) (fun _=>true) (by kernel_rfl) ⟨y0,y2,d5⟩ (fun hHeld => ?_);refine tq 0 (h:=tq 1 (h:=tq 2 (h:=tq 3 (h:=tq 4 (h:=tq 5 (h:=tq 6 (h:=tq 7 (h:=tq 8 (h:=tq 9 (h:=tq 10 (h:=tq 11 (h:=tq 12 (h:=tq 13 (h:=?_))))))))))))));refine tq 14 (h:=tq 15 (h:=tq 16 (h:=tq 17 (h:=tq 18 (h:=tq 19 (h:=tq 20 (h:=?_)))))));rw [wrap_i64 (n:=((N - e:Nat):Int)) om om];rw [show decide (((N - e:Nat):Int)<(x.of':Int))=true from by simpa using c8];refine tD (h:=?_);go_wp2_with fail
    (try simp only [Exit.inBlock,Exit.then]);refine bodyPost_ret (results_none rfl _ _ _) rfl ?_
    exact a8.out _ O b7 hl2 Aij.out
   have hAi:¬ (x.stamp.toNat:Int)<=(last.toNat:Int):=om
   have hBi:¬ (x.of':Int)<1:=om
   have c8:¬ ((N - e:Nat):Int)<(x.of':Int):=om
   refine Aa (fun w'=>w'.cell? ⟨u,0,none⟩=some (.int .u64 (x.stamp.toNat:Int))/\w'.cell? ⟨u,2,none⟩=some (.int .i64 (x.of':Int))/\w'.cell? ⟨p,5,none⟩=some (.int .i64 (e:Int))) (fun _=>true) (by kernel_rfl) ⟨y0,y2,d5⟩ (fun hHeld => ?_);refine tq 0 (h:=tq 1 (h:=tq 2 (h:=tq 3 (h:=tq 4 (h:=tq 5 (h:=tq 6 (h:=tq 7 (h:=tq 8 (h:=tq 9 (h:=tq 10 (h:=tq 11 (h:=tq 12 (h:=tq 13 (h:=?_))))))))))))));refine tq 14 (h:=tq 15 (h:=tq 16 (h:=tq 17 (h:=tq 18 (h:=tq 19 (h:=tq 20 (h:=?_)))))));rw [wrap_i64 (n:=((N - e:Nat):Int)) om om];rw [show decide (((N - e:Nat):Int)<(x.of':Int))=false from by simpa using c8];refine tD (h:=?_);clear hAi hBi c8 hHeld;go_wp2_with fail;have hi1:(e:Int)<=(e:Int)+(x.of':Int):=om
   have h8:(e:Int)+(x.of':Int)<=(cap:Int):=om
   have hi3:(0:Int)<=(e:Int)+(x.of':Int):=om
   have hne:¬ (cap=e):=om
   refine Aa (fun w'=>w'.cell? ⟨u,2,none⟩=some (.int .i64 (x.of':Int))/\w'.cell? ⟨p,5,none⟩=some (.int .i64 (e:Int))) (fun _=>true) (by kernel_rfl) ⟨y2,d5⟩ (fun hHeld => ?_);refine tq 0 (h:=tq 1 (h:=tq 2 (h:=tq 3 (h:=tq 4 (h:=tq 5 (h:=tq 6 (h:=tq 7 (h:=tq 8 (h:=tq 9 (h:=tq 10 (h:=tq 11 (h:=?_))))))))))));rw [wrap_i64 (n:=(e:Int)+(x.of':Int)) om om];refine tq 12 (h:=tq 13 (h:=tq 14 (h:=tD (h:=?_))));clear hHeld;have Aml:aj ai W1.drew O W1.drew.drew O:=(aj.refl _ _ _).drew;have f3:=hl2.step Aml id id;have hst3:=b7.trans (Aml.only L);have Atj:W1.drew.drew.heap[u]?=some (.cells (BQ x bv).toArray 238 (0,0)):=hxb;have h9:=(hlv2.step hdr id).step Aml id;have Bfz:=(d8.step hdr id).step Aml id;generalize W1.drew.drew=J at *;clear Aml hdr b7 hl2 hxb hlv2 d8 c7 hst1 y0 y2 d5;rw [show ((e:Int)+(x.of':Int)).toNat - e=x.of' from by omega];obtain ⟨K,hK⟩:=az (x.of');have a9:=ae hK;rw [hK] at hB hC hxo hi1 h8 hi3 ⊢;have hKi:(K:Int)<=2000:=om
   have k3:=hst3.size;go_wp2_with fail
   go_loopw [6,62] (fun rec i wr=>∃ k:Nat,k<=K/\i = .int .i64 k/\Below J.heap.size J wr/\wr.ownsRow J.heap.size 5 1 rec (((ls.drop e).take k).flatMap AA.bytes).length (bvs (((ls.drop e).take k).flatMap AA.bytes))/\Hid (∀ j,j<k->∃ y,ls[e+j]?=some y/\y.stamp=x.stamp/\y.at'=j/\y.of'=K))
    (fun _ i _=>K - (intOf i).toNat)
   case atStart=>exact ⟨0,Nat.zero_le _,rfl,Below.refl _ _,by simpa using World.ownsRow_nil _ _ _ _,ae (fun j hj=>om)⟩
   case round =>
    obtain ⟨k,hk,rfl,hbel,hown,hall⟩:=hrel;have rH:aj ai J O _ (Nb J O):=⟨hbel.os,hbel.tape,hbel.output,hbel.size,fun k hk=>if_pos hk,fun k hk _=>hbel.block k hk⟩;have f4:=au Atj;have Akc:=(hbel.block u f4).trans Atj;have y0:=ag Akc 0;have y2:=ag Akc 2;simp only [BQ,ay,ax] at y0 y2;rw [a9.out] at y2;have hl4:=f3.step rH id id;have pX:=hst3.trans (rH.only L);have Abc:=hbel.size
    by_cases hkK:k<K
    ·obtain ⟨y,hy⟩:∃ y,ls[e+k]?=some y:=⟨_,List.getElem?_eq_getElem (by rw [b4.out];omega)⟩;have f7:=h9.step rH id;obtain ⟨b',off',cap',Y, -, -,hat'⟩:=f7.at;simp only [Value.slice.injEq,Option.some.injEq,Addr.mk.injEq] at Y;obtain ⟨⟨rfl,rfl, -⟩, -,rfl⟩:=Y;obtain ⟨U,hbw,hr⟩:=hat' (e+k) y hy;rw [Nat.add_mul, <-Nat.add_assoc] at hr;obtain ⟨k7,hyo,k8⟩:=xZ.out y (List.mem_of_getElem? hy);have hld:=ae (TF hr);have a3:=ae (AB (P:=prog) wr 238 _ Zp);have hsw:=Be wr #[.int .u64 0, .int .i64 0, .int .i64 0, .slice none 0 0] 238 (BQ y U) rfl;obtain ⟨hso, -⟩:=Ba (P:=prog) (ty:=238) (vs:=BQ y U) (heap_alloc_new wr (.cells [.int .u64 0, .int .i64 0, .int .i64 0, .slice none 0 0].toArray 238)) rfl (by kernel_rfl) (IK hbw);rw [hsw] at hso;have a4:=ae hso;have hba:Below J.heap.size J (wr.alloc (.cells (BQ y U).toArray 238)):=hbel.alloc Abc _;have Aod:=(aj.refl ai wr (Nb J O)).alloc (.cells (BQ y U).toArray 238) (0,0);have hyb:(wr.alloc (.cells (BQ y U).toArray 238)).heap[wr.heap.size]?=some (.cells (BQ y U).toArray 238 (0,0)):=heap_alloc_new wr _;have z0:(wr.alloc (.cells (BQ y U).toArray 238)).cell? ⟨wr.heap.size,0,none⟩=some (.int .u64 (y.stamp.toNat:Int)):=ag hyb 0;have z1:(wr.alloc (.cells (BQ y U).toArray 238)).cell? ⟨wr.heap.size,1,none⟩=some (.int .i64 (y.at':Int)):=ag hyb 1;have z2:(wr.alloc (.cells (BQ y U).toArray 238)).cell? ⟨wr.heap.size,2,none⟩=some (.int .i64 (y.of':Int)):=ag hyb 2;have z3:(wr.alloc (.cells (BQ y U).toArray 238)).cell? ⟨wr.heap.size,3,none⟩=some U:=ag hyb 3;have ApM:=(Aod.block u om id).trans Akc;have v0:(wr.alloc (.cells (BQ y U).toArray 238)).cell? ⟨u,0,none⟩=some (.int .u64 (x.stamp.toNat:Int)):=ag ApM 0;have v2:(wr.alloc (.cells (BQ y U).toArray 238)).cell? ⟨u,2,none⟩=some (.int .i64 (x.of':Int)):=ag ApM 2;rw [a9.out] at v2;have c9:=hl4.step Aod id id;have d1:=pX.trans (Aod.only L);have hownA:=hown.alloc (.cells (BQ y U).toArray 238);have AqR:=hbw.step Aod id;have k9:(k:Int)<(K:Int):=om
     have f8:¬ (y.stamp=x.stamp/\y.at'=k/\y.of'=K)->Ad.accept ls e last=none:=fun hne=>by
      cases hac:Ad.accept ls e last with
      | none=>rfl
      | some q =>
       obtain ⟨k',X,c⟩:=q;obtain ⟨_,_,_,h4,_⟩:=Ad.DW hac;obtain ⟨x',hx',q1,_,q3⟩:=h4 0 (by have:=(Ad.DW hac).1;omega);rw [Nat.add_zero,hxH.out] at hx';simp only [Option.some.injEq] at hx';subst hx';obtain ⟨y',e0,p1,p2,p3⟩:=h4 k (by rw [<-q3,a9.out];exact hkK);rw [hy] at e0;simp only [Option.some.injEq] at e0;subst e0;exact absurd ⟨by rw [p1,q1],p2,by rw [p3, <-q3,a9.out]⟩ hne
     have AcU:=ae f8;have hyH:=ae hy;have l0:(((ls.drop e).take k).flatMap AA.bytes).length<=480*2000:=by
      have Afo:∀ (l:List AA),(∀ z ∈ l,z.bytes.length<=480)->(l.flatMap AA.bytes).length<=480*l.length:=by
       intro l
       induction l with
       | nil=>intro _;simp
       | cons z r ih =>
        intro hz;have:=ih (fun q hq=>hz q (by simp [hq]));have i0:=hz z (by simp);simp only [List.flatMap_cons,List.length_append,List.length_cons];omega
      have h1:=Afo ((ls.drop e).take k) (fun z hz=>(xZ.out z (List.mem_of_mem_drop (List.mem_of_mem_take hz))).1);have h2:((ls.drop e).take k).length<=k:=by simp;omega
      omega
     have f9:(ls.drop e).take (k+1)=(ls.drop e).take k++[y]:=by
      rw [List.take_add_one,List.getElem?_drop,hy];rfl
     clear f8 hy hsw hso hat' f7 hr hbw y0 y2 Akc ApM hyb hba;generalize g0:((ls.drop e).take k).flatMap AA.bytes=Rk at *;have i1:=ae g0;clear g0;obtain ⟨ra,W,rfl⟩:=BA hown
     by_cases hm1:y.stamp=x.stamp
     ·have i2:((x.stamp.toNat:Int) != (x.stamp.toNat:Int))=false:=by simp
      rw [hm1] at z0
      by_cases b8:y.at'=k
      ·have hb2:((k:Int) != (k:Int))=false:=by simp
       rw [b8] at z1
       by_cases hm3:y.of'=K
       ·have i3:((K:Int) != (K:Int))=false:=by simp
        rw [hm3] at z2;obtain ⟨v',w3,hrun,g4,hgrow⟩:=Qu (wr.alloc (.cells (BQ y U).toArray 238)) (base:=J.heap.size) (by simp;omega) hownA AqR om;have Akn:Below J.heap.size J w3:=(hbel.alloc Abc _).grown hgrow (by simp;omega) (fun k hk=>(hownA.lt k hk).1);have g5:((ls.drop e).take (k+1)).flatMap AA.bytes=Rk++y.bytes:=by rw [f9,List.flatMap_append,i1.out];simp
        have i4:Hid (∀ j,j<k+1->∃ y,ls[e+j]?=some y/\y.stamp=x.stamp/\y.at'=j/\y.of'=K):=ae fun j hj=>by
         by_cases i5:j=k
         ·subst i5;exact ⟨y,hyH.out,hm1,b8,hm3⟩
         ·exact hall.out j om
        have i6:=ae (show w3.ownsRow J.heap.size 5 1 v' (((ls.drop e).take (k+1)).flatMap AA.bytes).length (bvs (((ls.drop e).take (k+1)).flatMap AA.bytes)) from by rw [g5,List.length_append];exact g4);obtain ⟨wa,wc,rfl⟩:=Aq AqR;have Aax:=ae hrun;clear hm1 b8 hm3 hrun g4 hgrow AcU g5 hall hown hownA AqR c9 d1 f9
        go_wp2_with (first
         | ((with_reducible apply Bo);exact hld.out;simp only [Act.put,GL,DL,lss])
         | ((with_reducible apply AU);exact a3.out;simp only [Act.put,GL,DL,lss])
         | ((with_reducible apply AC);exact a4.out;simp only [Act.put])
         | ((with_reducible apply Bl);exact Aax.out;simp only [Act.put,GL,DL,lss]))
        go_roundw
        case rel=>exact ⟨k+1,hkK,by go_num,Akn,i6.out,i4⟩
        case measure=>simp [intOf];omega
       ·have i3:((y.of':Int) != (K:Int))=true:=by rw [bne_iff_ne];omega
        have F:=ae (AcU.out (fun h=>hm3 h.2.2));clear hm3
        go_wp2_with (first
         | ((with_reducible apply Bo);exact hld.out;simp only [Act.put,GL,DL,lss])
         | ((with_reducible apply AU);exact a3.out;simp only [Act.put,GL,DL,lss])
         | ((with_reducible apply AC);exact a4.out;simp only [Act.put]))
        (try simp only [Exit.inBlock,Exit.then]);refine bodyPost_ret (results_none rfl _ _ _) rfl ?_
        exact a8.out _ _ d1 c9 F.out
      ·have hb2:((y.at':Int) != (k:Int))=true:=by rw [bne_iff_ne];omega
       have F:=ae (AcU.out (fun h=>b8 h.2.1));clear b8
       go_wp2_with (first
        | ((with_reducible apply Bo);exact hld.out;simp only [Act.put,GL,DL,lss])
        | ((with_reducible apply AU);exact a3.out;simp only [Act.put,GL,DL,lss])
        | ((with_reducible apply AC);exact a4.out;simp only [Act.put]))
       (try simp only [Exit.inBlock,Exit.then]);refine bodyPost_ret (results_none rfl _ _ _) rfl ?_
       exact a8.out _ _ d1 c9 F.out
     ·have i2:((y.stamp.toNat:Int) != (x.stamp.toNat:Int))=true:=by
       rw [bne_iff_ne];intro h;exact hm1 (BitVec.eq_of_toNat_eq om)
      have F:=ae (AcU.out (fun h=>hm1 h.1));clear hm1
      go_wp2_with (first
       | ((with_reducible apply Bo);exact hld.out;simp only [Act.put,GL,DL,lss])
       | ((with_reducible apply AU);exact a3.out;simp only [Act.put,GL,DL,lss])
       | ((with_reducible apply AC);exact a4.out;simp only [Act.put]))
      (try simp only [Exit.inBlock,Exit.then]);refine bodyPost_ret (results_none rfl _ _ _) rfl ?_
      exact a8.out _ _ d1 c9 F.out
    ·obtain rfl:K=k:=om
     obtain ⟨R,hR0⟩:=az (((ls.drop e).take K).flatMap AA.bytes);have F:Ad.accept ls e last=some (K,x.stamp,R):=by
      rw [<-hR0];exact Ad.Hl om (by rw [b4.out];omega) om hall.out
     have AvX:R.length<=960000:=by
      have Afo:∀ (l:List AA),(∀ z ∈ l,z.bytes.length<=480)->(l.flatMap AA.bytes).length<=480*l.length:=by
       intro l
       induction l with
       | nil=>intro _;simp
       | cons z r ih =>
        intro hz;have:=ih (fun q hq=>hz q (by simp [hq]));have i0:=hz z (by simp);simp only [List.flatMap_cons,List.length_append,List.length_cons];omega
      have h1:=Afo ((ls.drop e).take K) (fun z hz=>(xZ.out z (List.mem_of_mem_drop (List.mem_of_mem_take hz))).1);have h2:((ls.drop e).take K).length<=K:=by simp;omega
      rw [hR0] at h1;omega
     rw [hR0] at hown;clear hR0;obtain ⟨f',rfl⟩:∃ f',f=f'+1:=⟨f - 1,om⟩;have i7:Hid (Ad.Eb ls N (1,x0.stamp,[])=Ad.Eb ls f' (e+K,x.stamp,E++[R])):=ae (hR.out.trans (Ad.LC (s:=(e,last,E)) F f'));obtain ⟨ra,W,rfl⟩:=BA hown;have hRb:Bytes wr (Nb J O) (.slice ra R.length W) R:=Ry hown (fun q hq=>by unfold Nb;rw [if_neg (by have:=(hown.lt q hq).1;omega)]);have hRm:Mine wr (Nb J O) (.slice ra R.length W):=fun q off n c e hn=>by
      simp only [Value.slice.injEq] at e;have:=hown.lt q (by rw [e.1];rfl);exact ⟨this.2,by unfold Nb;rw [if_neg om]⟩
     have g6:aj ai wr (Nb J O) wr.drew (Nb J O):=(aj.refl _ _ _).drew;have hsA:=g6.trans ((aj.refl ai wr.drew (Nb J O)).alloc (.cells #[.slice ra R.length W] 29) (0,0));have hlA:=hl4.step hsA id id;have g7:=hRb.step hsA id;have AvZ:=hRm.step hsA;have g8:(wr.drew.alloc (.cells #[.slice ra R.length W] 29)).heap[wr.heap.size]?=some (.cells #[.slice ra R.length W] 29 (0,0)):=heap_alloc_new wr.drew _;have g9:Ad.wf { m with records:=E,end':=e }:=hl4.wf;have Atl:({ ({ m with records:=E,end':=e }:Ad) with records:=E++[R],end':=e+K }:Ad).wf:=by
      obtain ⟨q1,q2,q3,q4,q5,q6,q7⟩:=g9;simp only at q1 q2 q3 q4 q5 q6 q7;refine ⟨q1,q2,q3,by show 1<=e+K;omega,by show e+K<=m.n;omega,by show (E++[R]).length+1<=e+K;simp only [List.length_append,List.length_cons,List.length_nil];omega, ?_⟩;intro r hr
      rcases List.mem_append.1 hr with hr | hr
      ·exact q7 r hr
      ·simp only [List.mem_singleton] at hr;subst hr;exact AvX
     obtain ⟨rv,v',w3,o3,b9,⟨rva,e3,i8⟩,hrun,⟨v'a,a6,Y⟩,hs3,c0,e4,e5⟩:=hlA.append hL g8 g7 AvZ (e+K) Atl;subst i8 Y;simp only at b9 hrun e4 e5;have wS:p<wr.heap.size:=hl4.lt;have l1:wr.drew.cell? ⟨p,6,none⟩=some (.slice rva E.length e3):=by
      rw [<-b9,World.cell?_alloc_lt _ _ _ wS]
     have AqL:=hl4.held;obtain ⟨-, -, -, -, -,h3, -⟩:=AqL;simp only at h3;have Ath:=au Akc;have c3:(wr.drew.alloc (.cells #[.slice ra R.length W] 29)).heap[u]?=some (.cells (BQ x bv).toArray 238 (0,0)):=(hsA.block u Ath id).trans Akc;have Bfa:u ≠ p:=by
      intro h;rw [h] at c6;have h1:=f3.wE;rw [c6] at h1;exact hL h1.symm
     have AyE:(Ak (Nb J O) wr.heap.size (0,0) u).1=0:=by
      rw [BI _ _ om];unfold Nb;rw [if_pos f4,c6]
     have Alb:w3.heap[u]?=some (.cells (BQ x bv).toArray 238 (0,0)):=(hs3.block u (au c3) (by show ¬ _=L;rw [show wr.drew.heap.size=wr.heap.size from rfl,AyE];exact fun h=>hL h.symm)).trans c3;have k0:wr.drew.cell? ⟨u,0,none⟩=some (.int .u64 (x.stamp.toNat:Int)):=y0;have k2:wr.drew.cell? ⟨u,2,none⟩=some (.int .i64 (K:Int)):=y2;have a0:(wr.drew.alloc (.cells #[.slice ra R.length W] 29)).cell? ⟨u,0,none⟩=some (.int .u64 (x.stamp.toNat:Int)):=ag c3 0;have a2:(wr.drew.alloc (.cells #[.slice ra R.length W] 29)).cell? ⟨u,2,none⟩=some (.int .i64 (K:Int)):=by rw [<-a9.out];exact ag c3 2
     have a5:(wr.drew.alloc (.cells #[.slice ra R.length W] 29)).cell? ⟨p,5,none⟩=some (.int .i64 (e:Int)):=by rw [World.cell?_alloc_lt _ _ _ wS];exact h3
     have b0:w3.cell? ⟨u,0,none⟩=some (.int .u64 (x.stamp.toNat:Int)):=ag Alb 0;have b2:w3.cell? ⟨u,2,none⟩=some (.int .i64 (K:Int)):=by rw [<-a9.out];exact ag Alb 2
     have b5:w3.cell? ⟨p,5,none⟩=some (.int .i64 (e:Int)):=(World.cell?_of_block (a:=⟨p,5,none⟩) c0).trans a5;have b6:w3.cell? ⟨p,6,none⟩=some (.slice rva E.length e3):=(World.cell?_of_block (a:=⟨p,6,none⟩) c0).trans b9;obtain ⟨_,_,hpA, -⟩:=hlA;have f5:=Ap (c0.trans hpA) 5;have f6:=Ap (c0.trans hpA) 6;have s0:(w3.setCell ⟨p,6,none⟩ (.slice v'a (E.length+1) a6)).cell? ⟨u,0,none⟩=some (.int .u64 (x.stamp.toNat:Int)):=by rw [World.cell?_setCell_other _ _ _ _ (by simp)];exact b0
     have s2:(w3.setCell ⟨p,6,none⟩ (.slice v'a (E.length+1) a6)).cell? ⟨u,2,none⟩=some (.int .i64 (K:Int)):=by rw [World.cell?_setCell_other _ _ _ _ (by simp)];exact b2
     have s5:(w3.setCell ⟨p,6,none⟩ (.slice v'a (E.length+1) a6)).cell? ⟨p,5,none⟩=some (.int .i64 (e:Int)):=by rw [World.cell?_setCell_other _ _ _ _ (by simp)];exact b5
     have t0:((w3.setCell ⟨p,6,none⟩ (.slice v'a (E.length+1) a6)).setCell ⟨p,5,none⟩ (.int .i64 ((e+K:Nat):Int))).cell? ⟨u,0,none⟩=some (.int .u64 (x.stamp.toNat:Int)):=by rw [World.cell?_setCell_other _ _ _ _ (by simp)];exact s0
     have t2:((w3.setCell ⟨p,6,none⟩ (.slice v'a (E.length+1) a6)).setCell ⟨p,5,none⟩ (.int .i64 ((e+K:Nat):Int))).cell? ⟨u,2,none⟩=some (.int .i64 (K:Int)):=by rw [World.cell?_setCell_other _ _ _ _ (by simp)];exact s2
     have AaM:=((pX.trans (hsA.only L)).trans e4);have AoR:endOf p N ((w3.setCell ⟨p,6,none⟩ (.slice v'a (E.length+1) a6)).setCell ⟨p,5,none⟩ (.int .i64 ((e+K:Nat):Int)))=N - (e+K):=by
      have:((w3.setCell ⟨p,6,none⟩ (.slice v'a (E.length+1) a6)).setCell ⟨p,5,none⟩ (.int .i64 ((e+K:Nat):Int))).cell? ⟨p,5,none⟩=some (.int .i64 ((e+K:Nat):Int)):=World.cell?_setCell_same' _ _ _ (by rw [s5];rfl);unfold endOf;rw [this];show N - (((e+K:Nat):Int)).toNat=_;rw [Int.toNat_natCast]
     have hadd:(e:Int)+(K:Int)=((e+K:Nat):Int):=om
     have Aax:=ae hrun;have d3:=ae (aI a0 (aI a2 (aI a5 b9)));have b1:=ae (aI b0 (aI b2 (aI b5 b6)));have e6:=ae (aI s0 (aI s2 s5));have hT0:=ae (aI t0 t2);have hF:=ae (aI AaM (aI e5 AoR));have h5:=ae hadd;clear hrun a0 a2 a5 b9 b0 b2 b5 b6 s0 s2 s5 t0 t2 AaM e5 AoR Alb c3 e4 hs3 c0 g8 g7 AvZ hRm hRb hsA g6 hown hall F hadd hpA Atl g9;go_wp2_with fail;refine JH (fun i w'=>(w'.cell? ⟨u,0,none⟩=some (.int .u64 (x.stamp.toNat:Int))/\w'.cell? ⟨u,2,none⟩=some (.int .i64 (K:Int)))/\(i<23 \/ 25<=i->w'.cell? ⟨p,5,none⟩=some (.int .i64 (e:Int)))/\(i<20 \/ 25<=i->w'.cell? ⟨p,6,none⟩=some (.slice rva E.length e3))) (by kernel_rfl) ?_;refine tT 0 (h:=tT 1 (h:=tT 2 (h:=tT 3 (h:=tT 4 (h:=?_)))));refine tG 5 (hN:=by exact fun j w hd h=>h.2.2 (Nh (lo:=20) (hi:=25) (by kernel_rfl) j hd)) (h:=?_);refine tT 6 (h:=tT 9 (h:=tT 10 (h:=tT 11 (h:=?_))));refine tG 12 (hN:=by exact fun j w hd h=>h.2.1 (Nh (lo:=23) (hi:=25) (by kernel_rfl) j hd)) (h:=?_);refine tT 13 (h:=?_);refine tG 14 (h:=?_);refine tT 15 (h:=tT 16 (h:=?_));refine tG 17 (h:=?_);rw [wrap_i64 (n:=(e:Int)+(K:Int)) om om,h5.out];refine BX (i:=7) rfl (by kernel_rfl) ?_;go_wp2_with fail;refine ⟨.inr ⟨⟨d3.out.1,d3.out.2.1⟩,fun _=>d3.out.2.2.1,fun _=>d3.out.2.2.2⟩, ?_⟩;refine BX (i:=8) rfl (by kernel_rfl) ?_;refine Bl Aax.out ?_;refine wpList_nil ?_;refine ⟨.inr ⟨⟨b1.out.1,b1.out.2.1⟩,fun _=>b1.out.2.2.1,fun _=>b1.out.2.2.2⟩, ?_⟩;simp only [Act.put,GL,DL,lss];have q5:=b1.out.2.2.1;have q6:=b1.out.2.2.2;refine BX (i:=18) rfl (by kernel_rfl) ?_;go_wp2_with fail
     (first | refine ⟨.inl trivial, ?_⟩ | refine ⟨.inl rfl, ?_⟩ | skip)
     refine BX (i:=19) rfl (by kernel_rfl) ?_;go_wp2_with fail
     (first | refine ⟨.inl trivial, ?_⟩ | refine ⟨.inl rfl, ?_⟩ | skip)
     refine BX (i:=20) rfl (by kernel_rfl) ?_;go_wp2_with fail;refine ⟨.inr ⟨⟨e6.out.1,e6.out.2.1⟩,fun _=>e6.out.2.2,fun h=>by rcases h with h | h <;> omega⟩, ?_⟩
     refine BX (i:=21) rfl (by kernel_rfl) ?_;go_wp2_with fail
     (first | refine ⟨.inl trivial, ?_⟩ | refine ⟨.inl rfl, ?_⟩ | skip)
     refine BX (i:=22) rfl (by kernel_rfl) ?_;go_wp2_with fail
     (first | refine ⟨.inl trivial, ?_⟩ | refine ⟨.inl rfl, ?_⟩ | skip)
     refine BX (i:=23) rfl (by kernel_rfl) ?_;go_wp2_with fail;refine ⟨.inr ⟨⟨hT0.out.1,hT0.out.2⟩,fun h=>by rcases h with h | h <;> omega,fun h=>by rcases h with h | h <;> omega⟩, ?_⟩
     refine BX (i:=24) rfl (by kernel_rfl) ?_;go_wp2_with fail
     (first | refine ⟨.inl trivial, ?_⟩ | refine ⟨.inl rfl, ?_⟩ | skip)
     refine JI (by kernel_rfl) ?_ _;clear q5 q6 f5 f6;go_wp2_with fail;go_roundw
     case rel=>exact ⟨f',e+K,x.stamp,E++[R],o3,rfl,hF.out.1,hF.out.2.1,om,om,om,i7⟩
     case measure=>rw [h5.out,hF.out.2.2,h7.out];omega
  ·obtain rfl:N=e:=om
   have h6:Ad.readAll ls=(N,last,E):=by
    rw [f0.out,hR.out];exact Ad.Gp (s:=(N,last,E)) (by unfold Ad.accept;rw [List.getElem?_eq_none (by rw [b4.out];exact Nat.le_refl _)]) f
   have i9:=ae h6;clear h6;go_wp2_with fail
   go_end0
   rw [i9.out];exact ⟨_,o1,rfl,c4,rfl,hl⟩
end
theorem VI {α:Type}(l:List α) (i j:Nat) (x d:α) (hi:i<l.length):(l.set i x).getD j d=if i=j then x else l.getD j d:=by
 simp only [List.getD_eq_getElem?_getD,List.getElem?_set]
 by_cases h:i=j
 ·subst h;simp [hi]
 ·simp [h]
namespace Af
def Syn (d:Af) (ls:List (List UInt8)):Prop:=
 d.dead=false/\d.left = -1/\d.pages=List.replicate 6 blank/\ls.length=6/\(∀ p,p<6->seenIn p blank d.row=if ls.getD p []=[] then blank else ls.getD p [])/\∀ x ∈ d.row,x.1<6/\x.2.length=512
end Af
def tvs (ls:List (List UInt8)):List Value:=ls.map fun b => .string ⟨b.toArray⟩
namespace Af
def tick (d:Af):Af:=if d.left<0 then d else { d with left:=d.left - 1 }
theorem ND (d:Af):d.tick.pages=d.pages/\d.tick.row=d.row/\d.tick.dead=d.dead:=by unfold tick;split <;> exact ⟨rfl,rfl,rfl⟩
theorem Rl (d:Af):(d.left<0->d.tick.left=d.left)/\(0<d.left->d.tick.left=d.left - 1):=by
 unfold tick;constructor
 ·intro h;rw [if_pos h]
 ·intro h;rw [if_neg om]
theorem Nj {d:Af}:d.counted 0=if d.left=0 then ({ d with dead:=true },9) else (d.tick,0):=by
 unfold counted tick
 by_cases h:d.left<0
 ·rw [if_pos (.inr h),if_neg om,if_pos h]
 ·rw [if_neg om]
  by_cases q:d.left=0
  ·rw [if_pos q,if_pos q]
  ·rw [if_neg q,if_neg q,if_neg h]
theorem Zt {d:Af}(q:d.dead=false) {j:Nat}(u:j<d.pages.length) {l:List UInt8}(hl:l.length=512) :
  d.write (j:Int) l=if d.left=0 then ({ d with dead:=true },9) else ({ d.tick with row:=d.row++[(j,l)] },0):=by
 have r:d.asked (j:Int) l.length=0:=by
  unfold asked;rw [q];simp only [Bool.false_eq_true,if_false];rw [if_neg om]
 unfold write;rw [r,Nj];split
 ·simp
 ·simp [(ND d).2.1]
theorem dD {d:Af}(q:d.dead=false) (hp:0<d.pages.length) :
  d.sync=if d.left=0 then ({ d with dead:=true },9) else (d.tick.done fun _=>512,0):=by
 have r:d.asked 0 512=0:=by
  unfold asked;rw [q];simp only [Bool.false_eq_true,if_false];rw [if_neg om]
 unfold sync;rw [r,Nj];split <;> simp
end Af
namespace Ad
theorem put_any (l:Ad) (S:BitVec 64) (r:l.stamp=S) (of':Nat) (b:List UInt8):∀ (k i:Nat) (d:Af),d.dead=false->l.first+l.end'+i+k<=d.pages.length ->
  ∃ m q,m<=k/\put l of' b k i d=(q,if m=k then 0 else 9)/\q.pages=d.pages/\q.row=d.row++((List.range m).map fun t=>(l.first+l.end'+i+t,AA.page ⟨S,i+t,of',part b (i+t)⟩)) /\
   q.dead=decide (m<k)/\(d.left<0->m=k/\q.left=d.left)/\(0<=d.left->0<=q.left/\q.left<=d.left)
 | 0,i,d,hd,hr=>⟨0,d,Nat.le_refl _,rfl,rfl,by simp,by simpa using hd,fun _=>⟨rfl,rfl⟩,fun h=>⟨h,Int.le_refl _⟩⟩
 | k+1,i,d,hd,hr=>by
  have J:=Af.Zt hd (j:=l.first+l.end'+i) om (l:=AA.page ⟨l.stamp,i,of',part b i⟩) (AA.ES (CX _ _))
  unfold put;simp only [J]
  by_cases h0:d.left=0
  ·rw [if_pos h0];refine ⟨0,{ d with dead:=true },om,by rw [if_pos (show ((9:Int) ≠ 0) from by omega),if_neg om],rfl,by simp,by simp,fun h=>om,fun _=>⟨by show 0<=d.left;omega,Int.le_refl _⟩⟩
  ·rw [if_neg h0];rw [if_neg (by simp)];obtain ⟨u,t2,O⟩:=Af.ND d;obtain ⟨E,U⟩:=Af.Rl d;obtain ⟨m,q,q1,W,Y,q4,q5,q6,q7⟩:=put_any l S r of' b k (i+1) { d.tick with row:=d.row++[(l.first+l.end'+i,AA.page ⟨l.stamp,i,of',part b i⟩)] } (by show d.tick.dead=false;rw [O];exact hd) (by show _<=d.tick.pages.length;rw [u];omega)
   refine ⟨m+1,q,om, ?_,Y.trans u, ?_, ?_, ?_, ?_⟩
   ·rw [W]
    by_cases F:m=k
    ·rw [if_pos F,if_pos om]
    ·rw [if_neg F,if_neg om]
   ·rw [q4];show (d.row++_)++_=_;rw [List.append_assoc,List.range_succ_eq_map,List.map_cons,List.map_map,r];congr 1;simp only [List.singleton_append,Nat.add_zero];congr 1;apply List.map_congr_left;intro t _;simp only [Function.comp,Nat.succ_eq_add_one];rw [show i+1+t=i+(t+1) from by omega,show l.first+l.end'+(i+1)+t=l.first+l.end'+i+(t+1) from by omega]
   ·rw [q5];simp
   ·intro h;obtain ⟨a,b⟩:=q6 (by show d.tick.left<0;rw [E h];exact h);exact ⟨om,b.trans (E h)⟩
   ·intro h;have hx:=U om;obtain ⟨a,b⟩:=q7 (by show 0<=d.tick.left;omega)
    change q.left<=d.tick.left at b
    exact ⟨a,om⟩
def Fp (pages:List (List UInt8)) (e:Nat) (S:BitVec 64) (b:List UInt8):List (List UInt8):=
 (List.range pages.length).map fun j=>if e<=j/\j<e+many b then AA.page ⟨S,j - e,many b,part b (j - e)⟩ else pages.getD j []
def Eh (pages:List (List UInt8)) (S:BitVec 64):List (List UInt8):=pages.set 0 (AA.page ⟨S,0,0,[]⟩)
theorem JD (pages:List (List UInt8)) (e:Nat) (S:BitVec 64) (b:List UInt8):(Fp pages e S b).length=pages.length:=by simp [Fp]
theorem IP (pages:List (List UInt8)) (S:BitVec 64):(Eh pages S).length=pages.length:=by simp [Eh]
theorem FZ (pages:List (List UInt8)) (e:Nat) (S:BitVec 64) (b:List UInt8) (j:Nat):(Fp pages e S b)[j]?=if j<pages.length then (if e<=j/\j<e+many b then some (AA.page ⟨S,j - e,many b,part b (j - e)⟩) else pages[j]?) else none:=by
 unfold Fp;rw [List.getElem?_map]
 by_cases q:j<pages.length
 ·rw [List.getElem?_range q,if_pos q];simp only [Option.map_some];split
  ·rfl
  ·rw [List.getD_eq_getElem?_getD,List.getElem?_eq_getElem q];rfl
 ·rw [List.getElem?_eq_none (by simp;omega),if_neg q];rfl
theorem Bq (d:Af) (f n:Nat):(Aw d f n).length=n:=by simp [Aw]
theorem Cc (d:Af) (f n j:Nat) (q:j<n):(Aw d f n)[j]?=some (d.seen (f+j)):=by
 simp [Aw,q]
theorem Gx {d:Af}{f n:Nat}{l:List (List UInt8)}(hl:l.length=n) (h:∀ j,j<n->l[j]?=some (d.seen (f+j))):Aw d f n=l:=by
 apply List.ext_getElem?;intro j
 by_cases q:j<n
 ·rw [Cc _ _ _ _ q,h j q]
 ·rw [List.getElem?_eq_none (by rw [Bq];omega),List.getElem?_eq_none om]
def Fine (s:Ad × Af):Prop:=s.1=AY s.1.first (Aw s.2 s.1.first s.1.n)/\s.1.first+s.1.n<=s.2.pages.length/\2<=s.1.n/\s.2.wf
theorem fQ (f:Nat) (pages:List (List UInt8)) (E:1<=pages.length):1<=(AY f pages).end'/\(AY f pages).end'<=pages.length:=by
 show 1<=(if Di (Ah pages) then (readAll (Ah pages)).1 else 1)/\(if Di (Ah pages) then (readAll (Ah pages)).1 else 1)<=_
 split
 ·rename_i hh;have q:=PW hh;have r:=(Gq (Ah pages) (Ah pages).length (1,AaJ (Ah pages),[])).2 q;have u:=(Gq (Ah pages) (Ah pages).length (1,AaJ (Ah pages),[])).1;have:(Ah pages).length<=pages.length:=by
   unfold Ah;rw [List.length_map];exact (List.takeWhile_sublist _).length_le
  exact ⟨u,Nat.le_trans r this⟩
 ·omega
theorem XQ {x:AA}(h:x.bytes.length<=480):num (x.page.take 8)=x.stamp/\num (x.page.drop 504)=x.stamp:=by
 obtain ⟨e1,_,_,_,_,e2⟩:=AA.Hy x h;rw [e1,e2,Tt];exact ⟨rfl,rfl⟩
theorem Xc {pages:List (List UInt8)}{e:Nat}{S:BitVec 64}{b:List UInt8}(u:(newest pages).toNat<=S.toNat) (E:e+many b<=pages.length):newest (Fp pages e S b)=S:=by
 apply BitVec.eq_of_toNat_eq;apply Nat.le_antisymm
 ·rw [Aen];intro p hp;obtain ⟨j,q⟩:=List.mem_iff_getElem?.1 hp;rw [FZ] at q;split at q
  ·split at q
   ·simp only [Option.some.injEq] at q;subst q;obtain ⟨a,c⟩:=XQ (x:=⟨S,j - e,many b,part b (j - e)⟩) (CX _ _);rw [a,c];exact ⟨Nat.le_refl _,Nat.le_refl _⟩
   ·have:=Fe (List.mem_of_getElem? q);omega
  ·cases q
 ·have F:=Ko b;have r:AA.page ⟨S,0,many b,part b 0⟩ ∈ Fp pages e S b:=by
   apply List.mem_of_getElem? (i:=e);rw [FZ,if_pos om,if_pos om,Nat.sub_self]
  have:=(Fe r).1;rw [(XQ (x:=⟨S,0,many b,part b 0⟩) (CX _ _)).1] at this;exact this
theorem Vj {pages:List (List UInt8)}{S:BitVec 64}(r:(newest pages).toNat<=S.toNat) (u:1<=pages.length):newest (Eh pages S)=S:=by
 apply BitVec.eq_of_toNat_eq;apply Nat.le_antisymm
 ·rw [Aen];intro p hp
  rcases List.mem_or_eq_of_mem_set hp with hp | rfl
  ·have:=Fe hp;omega
  ·obtain ⟨a,c⟩:=XQ (x:=⟨S,0,0,[]⟩) (by simp);rw [a,c];exact ⟨Nat.le_refl _,Nat.le_refl _⟩
 ·have q:AA.page ⟨S,0,0,[]⟩ ∈ Eh pages S:=by
   apply List.mem_of_getElem? (i:=0);rw [Eh,List.getElem?_set_self om]
  have:=(Fe q).1;rw [(XQ (x:=⟨S,0,0,[]⟩) (by simp)).1] at this;exact this
theorem Tn {f:Nat}{pages:List (List UInt8)}{S:BitVec 64}(q:(newest pages).toNat<S.toNat) (r:1<=pages.length) :
  AY f (Eh pages S)={ first:=f,n:=pages.length,stamp:=S,Dx:=true,end':=1,records:=[],dead:=false }:=by
 obtain ⟨a,b⟩:=(MB (pages:=pages) (Aat:=Eh pages S) q (fun j u=>by rw [Eh,List.getElem?_set_ne om]) (.inr (.inl (by rw [Eh,List.getElem?_set_self om])))).1 (by rw [Eh,List.getElem?_set_self om]);unfold AY;simp only [a,b,if_true,Vj (Nat.le_of_lt q) r,IP]
theorem Vd {f:Nat}{pages:List (List UInt8)}{S:BitVec 64}{b:List UInt8}(J:(AY f pages).Dx=true) (r:(newest pages).toNat<S.toNat) (O:many b<65536) (u:(AY f pages).end'+many b<=pages.length) :
  AY f (Fp pages (AY f pages).end' S b)={ first:=f,n:=pages.length,stamp:=S,Dx:=true,end':=(AY f pages).end'+many b,records:=(AY f pages).records++[b],dead:=false }:=by
 have q:Di (Ah pages)=true:=J;have U:(AY f pages).end'=(readAll (Ah pages)).1:=by show (if Di (Ah pages) then _ else _)=_;rw [if_pos q]
 have W:(AY f pages).records=(readAll (Ah pages)).2.2:=by show (if Di (Ah pages) then _ else _)=_;rw [if_pos q]
 rw [W];rw [U] at u ⊢;have E:∀ i,i<many b->(Fp pages (readAll (Ah pages)).1 S b)[(readAll (Ah pages)).1+i]?=some (AA.page ⟨S,i,many b,part b i⟩):=fun i F=>by
  rw [FZ,if_pos om,if_pos om,Nat.add_sub_cancel_left]
 obtain ⟨a,c⟩:=Oj (pages:=pages) (Aat:=Fp pages (readAll (Ah pages)).1 S b) (b:=b) q r O
  (fun j Y=>by
   rw [FZ];split
   ·rw [if_neg om]
   ·rw [List.getElem?_eq_none om])
  (fun i F=>⟨_,E i F, .inr (.inl rfl)⟩)
 rcases c with ⟨_,c⟩ | ⟨c1,c2⟩
 ·exact (c E).elim
 ·unfold AY;simp only [a,c1,c2,if_true,Xc (Nat.le_of_lt r) u,JD]
end Ad
theorem fM:(prog.info? 238).map (fun i=>(i.zero.map (fun z=>z.cells.toList),i.size,i.bytes))=some (some [.int .u64 0, .int .i64 0, .int .i64 0, .slice none 0 0],4,48):=by kernel_rfl
def GH:List AA->List Value->List Value
 | x :: ls,bv :: bvs=>BQ x bv++GH ls bvs
 | _,_=>[]
theorem MP (x:AA) (bv:Value):∀ (ls:List AA) (bvs:List Value),bvs.length=ls.length->GH (ls++[x]) (bvs++[bv])=GH ls bvs++BQ x bv
 | [],[],_=>by simp [GH]
 | [],_ :: _,h=>by simp at h
 | _ :: _,[],h=>by simp at h
 | y :: ls,b :: bvs,h=>by simp only [List.cons_append,GH,List.append_assoc];rw [MP x bv ls bvs (by simpa using h)]
theorem Oy:∀ (ls:List AA) (bvs:List Value) (i:Nat) (x:AA) (bv:Value) (j:Nat) (v:Value),ls[i]?=some x->bvs[i]?=some bv->(BQ x bv)[j]?=some v->(GH ls bvs)[i*4+j]?=some v
 | [],_,_,_,_,_,_,h,_,_=>by simp at h
 | _ :: _,[],_,_,_,_,_,_,h,_=>by simp at h
 | y :: ls,b :: bvs,0,x,bv,j,v,h1,h2,h3=>by
  simp only [ay,Option.some.injEq] at h1 h2;subst h1;subst h2;simp only [GH,Nat.zero_mul,Nat.zero_add];rw [List.getElem?_append_left (List.getElem?_eq_some_iff.1 h3).1];exact h3
 | y :: ls,b :: bvs,i+1,x,bv,j,v,h1,h2,h3=>by
  simp only [ax] at h1 h2;simp only [GH];rw [List.getElem?_append_right (by simp [BQ];omega)];rw [show (i+1)*4+j - (BQ y b).length=i*4+j from by simp [BQ];omega];exact Oy ls bvs i x bv j v h1 h2 h3
def Gl (W:World) (o:Own) (X base:Nat) (v:Value) (ls:List AA):Prop:=
 ∃ bvs,W.ownsRow base 238 4 v ls.length (GH ls bvs)/\Ey W o bvs (ls.map AA.bytes)/\∀ k,v.ownBlock=some k->o k=(X,2)
theorem Gl.nil (W:World) (o:Own) (X base:Nat):Gl W o X base (.slice none 0 0) []:=
 ⟨[],by simpa [GH] using World.ownsRow_nil _ _ _ _,Ey.nil _ _,fun k q=>by simp [Value.ownBlock] at q⟩
theorem Gl.form {W:World}{o:Own}{X base:Nat}{v:Value}{ls:List AA}(h:Gl W o X base v ls):∃ a c,v = .slice a ls.length c:=by
 obtain ⟨bvs,q, -⟩:=h;exact BA q
theorem Gl.step {W W':World}{o o':Own}{X base:Nat}{v:Value}{ls:List AA}{T:Nat->Prop}(h:Gl W o X base v ls) (s:aj T W o W' o') (E:¬ T X) (h0:¬ T 0):Gl W' o' X base v ls:=by
 obtain ⟨bvs,q,F,r⟩:=h;refine ⟨bvs,⟨q.1, ?_⟩,F.step s h0,fun k u => ?_⟩
 ·rcases q.2 with hn | ⟨g,cap,cur,hv,hb,hc,J⟩
  ·exact .inl hn
  ·refine .inr ⟨g,cap,cur,hv,hb, ?_,J⟩;rw [s.block g (au hc) (by rw [r g (by rw [hv];rfl)];exact E)];exact hc
 ·rw [s.own k (q.lt k u).2];exact r k u
theorem Gl.set {W:World}{o:Own}{X base:Nat}{v:Value}{ls:List AA}(h:Gl W o X base v ls) (E:X ≠ 0) (a:Addr) (u:Value) (F:o a.block ≠ (X,2)) (J:(o a.block).1=X):Gl (W.setCell a u) o X base v ls:=by
 obtain ⟨bvs,q,O,r⟩:=h;have U:=(aj.refl (ak X) W o).setCell (a:=a) u (.inl J);refine ⟨bvs,⟨q.1, ?_⟩,O.step U (fun h=>E h.symm),r⟩
 rcases q.2 with hn | ⟨g,cap,cur,hv,hb,hc,Y⟩
 ·exact .inl hn
 ·refine .inr ⟨g,cap,cur,hv,hb, ?_,Y⟩;rw [Below.heap_setCell _ _ _ _ (by rintro rfl;exact F (r _ (by rw [hv];rfl)))];exact hc
theorem Gl.append {W:World}{o:Own}{X base:Nat}{v:Value}{ls:List AA}(h:Gl W o X base v ls) (a4:base<=W.heap.size) (J:X ≠ 0) (hn:ls.length<=100000) {E:Nat}{x:AA}{bv:Value}
  (a5:W.heap[E]?=some (.cells (BQ x bv).toArray 238 (0,0))) (hb:Bytes W o bv x.bytes) :
  ∃ O w' o',(Builtin.append_ #[234,234] 234 #[v, .slice (some ⟨E,0,none⟩) 1 1]).run prog W = .ok O w'/\Gl w' o' X base O (ls++[x])/\aj (ak X) W o w' o'/\(∀ k,v.ownBlock ≠ some k->k<W.heap.size->w'.heap[k]?=W.heap[k]?):=by
 obtain ⟨bvs,h1,U,Y⟩:=h;obtain ⟨g,cap,w',a6,a7,a2,r,a3⟩:=DD (P:=prog) W 234 234 238 underlying234 fM rfl om a4 v ls.length _ h1 E 0 1 1 (BQ x bv) rfl (AV a5)
  (by have:=IK hb;intro u hu;exact List.all_eq_true.1 this u hu) om om om
 have a8:o g=(X,2) \/ W.heap.size<=g:=by
  rcases r with r | r
  ·exact .inl (Y g r)
  ·exact .inr om
 have F:aj (ak X) W o w' (Ak o g (X,2)):=(aj.refl (ak X) W o).grown a2 (fun k q => .inl (by rw [Y k q];rfl)) g (X,2) a8;refine ⟨_,w',_,a6,⟨bvs++[bv], ?_, ?_, ?_⟩,F,fun k q a3=>a2.block k a3 (fun h=>q h.symm)⟩
 ·rw [MP _ _ _ _ (by have:=U.1;simpa using this)];simpa using a7
 ·rw [List.map_append];exact (U.step F (fun h=>J h.symm)).snoc (hb.step F (fun h=>J h.symm))
 ·intro k q;simp only [Value.ownBlock,Option.some.injEq] at q;subst q;exact Au _ _ _
theorem Gl.lvs {W:World}{o:Own}{X base:Nat}{v:Value}{ls:List AA}(h:Gl W o X base v ls) (hX:X ≠ 0) (m:Nat) (b1:1<=m) (hm:m<=ls.length) :
  ∃ g cap,v = .slice (some ⟨g,0,none⟩) ls.length cap/\ls.length<=cap/\cap<=maxLen/\base<=g/\o g=(X,2)/\(∃ cs,W.heap[g]?=some (.cells cs 238 (0,0)))/\Qy W (Ak o g (0,0)) (.slice (some ⟨g,0,none⟩) m cap) (ls.take m):=by
 obtain ⟨bvs,h1,J,O⟩:=h
 rcases h1.2 with ⟨_,h0⟩ | ⟨g,cap,cur,rfl,hb,hc,h4,U,h6,h7⟩
 ·omega
 ·have a2:=au hc;have a3:∀ (k:Nat),(o k).1=0->k ≠ g:=fun k Y e=>by rw [e,O g rfl] at Y;exact hX Y
  have a4:bvs.length=ls.length:=by have:=J.1;simpa using this
  refine ⟨g,cap,rfl,h4,U,hb,O g rfl,⟨cur,hc⟩,g,0,cap,bvs.take m,by rw [List.length_take,Nat.min_eq_left hm],by rw [List.length_take];omega,U,by rw [Au],a2, ?_, ?_⟩
  ·have hs:aj ai W o W (Ak o g (0,0))->True:=fun _=>trivial;refine ⟨by simp [a4],fun i v l hv hl => ?_⟩;have a5:bvs[i]?=some v:=by rw [List.getElem?_take] at hv;split at hv;exact hv;cases hv
   have a6:(ls.map AA.bytes)[i]?=some l:=by rw [List.map_take,List.getElem?_take] at hl;split at hl;exact hl;cases hl
   rcases J.2 i v l a5 a6 with hq | ⟨b,off,a7,q1,q2,q3,q4,q5,q6⟩
   ·exact .inl hq
   ·exact .inr ⟨b,off,a7,q1,q2,q3,by rw [BI _ _ (a3 b q4)];exact q4,q5,q6⟩
  ·intro i x bv q r j u hu;have a8:ls[i]?=some x:=by rw [List.getElem?_take] at q;split at q;exact q;cases q
   have a9:bvs[i]?=some bv:=by rw [List.getElem?_take] at r;split at r;exact r;cases r
   have F:=Oy ls bvs i x bv j u a8 a9 hu;rw [<-h7,List.getElem?_take] at F;split at F
   ·rw [Nat.zero_add];rw [ag (cs:=cur.toList) (E:=238) (fr:=(0,0)) (by simpa using hc)];exact F
   ·cases F
section
variable {w:World}{o:Own}{L D pd:Nat}{d:Af}
def Ad.raw (f n:Nat) (S:BitVec 64):Ad:=⟨f,n,S,false,1,[],false⟩
theorem Ad.Vg (ps:List (List UInt8)) (k:Nat) (p:List UInt8) (h:ps[k]?=some p):Ad.newest (ps.take (k+1))=Ad.KX (Ad.KX (Ad.newest (ps.take k)) (num (p.take 8))) (num (p.drop 504)):=by
 rw [List.take_add_one,h];simp only [Ad.newest,Option.toList_some,List.foldl_append,List.foldl_cons,List.foldl_nil]
theorem Sr {α:Type}(p:α->Bool) (l:List α) (k:Nat) (x:α) (h:l[k]?=some x) (E:k<=(l.takeWhile p).length):p x=true ↔ k<(l.takeWhile p).length:=by
 constructor
 ·intro r;rw [Ad.FX];intro i F
  by_cases u:i=k
  ·subst u;exact ⟨x,h,r⟩
  ·exact (Ad.FX p l i).1 om i (Nat.le_refl _)
 ·intro hl;obtain ⟨y,q,hp⟩:=(Ad.FX p l k).1 hl k (Nat.le_refl _);rw [h] at q;cases q;exact hp
def Opened (w w':World) (o':Own) (L pd f:Nat) (ps:List (List UInt8)) (v:Value):Prop:=
 (Ad.newest ps=BitVec.allOnes 64->v = .tuple #[.pointer none, .int .i64 2]) /\
 (Ad.newest ps ≠ BitVec.allOnes 64->∃ p,w.heap.size<=p/\v = .tuple #[.pointer (some ⟨p,0,none⟩), .int .i64 0]/\BZ w' o' L p pd (Ad.AY f ps))
theorem gB:(prog.info? 238).map (fun i=>(i.zero.map (fun z=>z.cells.toList),i.size))=some (some [.int .u64 0, .int .i64 0, .int .i64 0, .slice none 0 0],4):=by kernel_rfl
theorem QV (w:World) (x:AA) (bv:Value) (_q:(BQ x bv).all (·.oneCell')=true) :
  (Instr.buildSlice 234 1 #[(0, .agg (BQ x bv).toArray)]).run prog w = .ok (.slice (some ⟨w.heap.size,0,none⟩) 1 1) (w.alloc (.cells (BQ x bv).toArray 238)):=
 Dv w 234 238 _ (.agg (BQ x bv).toArray) (BQ x bv) underlying234 gB rfl (by simp [BQ]) (by simp [BQ]) rfl
theorem Yc (S A B:BitVec 64):(if (if S.toNat<A.toNat then (A.toNat:Int) else (S.toNat:Int))<(B.toNat:Int) then (B.toNat:Int) else if S.toNat<A.toNat then (A.toNat:Int) else (S.toNat:Int))=((Ad.KX (Ad.KX S A) B).toNat:Int):=by
 rw [Ad.Jc,Ad.Jc];split <;> split <;> omega
theorem UZ (hL:L ≠ 0) (_hD:D ≠ 0) (hLD:L ≠ D) (h:Bg w o D pd d) (hrow:d.row.length<=1000000) (hd:d.dead=false) (f n:Nat) (h2n:2<=n) (hn:n<=2000) (hf:f+n<=d.pages.length) :
  Calls prog 121 #[.pointer (some ⟨pd,0,none⟩), .int .i64 (f:Int), .int .i64 (n:Int)] w (XL (ak L) w o fun v w' o' =>
   Opened w w' o' L pd f (Ad.Aw d f n) v):=by
 have hN:¬ ak L 0:=fun h=>hL h.symm;have hND:¬ ak L D:=fun h=>hLD h.symm;have b9:=Ic h;rw [hd] at b9;have e5:=size_any h;obtain ⟨ps,hps⟩:=az (Ad.Aw d f n);have a3:ps.length=n:=by rw [<-hps];exact Ad.Bq _ _ _
 have hpg:∀ k,k<n->ps[k]?=some (d.seen (f+k)):=fun k J=>by rw [<-hps];exact Ad.Cc _ _ _ _ J
 have e6:=h.wf;have j6:d.pages.length<=4096:=e6.2.1;have e7:∀ k,k<n->d.asked ((f+k:Nat):Int) 512=0:=fun k J=>by
  unfold Af.asked;rw [hd,if_neg (by simp),if_neg om]
 rw [hps];have hA1:¬ (n:Int)<2:=om
 have i7:¬ (f:Int)<0:=om
 have hA3:¬ (d.pages.length:Int) - (n:Int)<(f:Int):=om
 have i8:IntKind.i64.wrap ((d.pages.length:Int) - (n:Int))=(d.pages.length:Int) - (n:Int):=wrap_i64 om om;have hbox:BZ (w.alloc (.cells ((Ad.raw f n 0).cells pd (.slice none 0 0)).toArray 233)) (Ak o w.heap.size (L,0)) L w.heap.size pd (Ad.raw f n 0):=
  ⟨.slice none 0 0,[],heap_alloc_new w _,World.ownsRow_nil _ _ _ _,JG.nil _ _,Au _ _ _,fun k J=>by simp [Value.ownBlock] at J,
   ⟨by show f<=4096;omega,h2n,hn,Nat.le_refl _,by show 1<=n;omega,by show 0+1<=1;omega,fun r hr=>by simp [Ad.raw] at hr⟩⟩
 have hsb:aj (ak L) w o _ _:=(aj.refl (ak L) w o).alloc (.cells ((Ad.raw f n 0).cells pd (.slice none 0 0)).toArray 233) (L,0);obtain ⟨t,ht⟩:=az ((ps.takeWhile fun p=>(CE p).2).length);have htn:t<=n:=by rw [<-ht, <-a3];exact List.Sublist.length_le (List.takeWhile_sublist _)
 have a4:∀ k,k<n->k<=t->((CE (d.seen (f+k))).2=true ↔ k<t):=fun k J hkt=>by
  rw [<-ht] at hkt ⊢;exact Sr _ ps k _ (hpg k J) hkt
 have hsn:∀ k,k<n->Ad.newest (ps.take (k+1))=Ad.KX (Ad.KX (Ad.newest (ps.take k)) (num ((d.seen (f+k)).take 8))) (num ((d.seen (f+k)).drop 504)):=fun k J=>Ad.Vg ps k _ (hpg k J);have a5:∀ k,k<n->(ps.take (k+1))=ps.take k++[d.seen (f+k)]:=fun k J=>by rw [List.take_add_one,hpg k J];rfl
 have j7:=ae hps;have zA:=ae a3;have Abt:=ae hpg;have i9:=ae e7;have Akd:=ae a4;have uZ:=ae hsn;have j0:=ae a5;have nD:=ae ht;have hh:=ae h;clear hps a3 hpg e7 a4 hsn a5 ht e6 h;go_enter func121,ntmps121;go_wp2_with fail;refine b9.mono ?_;rintro e w' ⟨rfl,rfl⟩;go_wp2_with fail;refine e5.mono ?_;rintro e w' ⟨rfl,rfl⟩;clear b9 e5;go_wp2_with fail;clear hA1 i7 hA3 i8;have e8:(Ad.raw f n 0).cells pd (.slice none 0 0)=[.pointer (some ⟨pd,0,none⟩), .int .i64 (f:Int), .int .i64 (n:Int), .int .u64 0, .bool false, .int .i64 1, .slice none 0 0, .bool false]:=rfl;rw [e8] at hbox hsb;clear e8;obtain ⟨p,hp⟩:=az (w.heap.size);rw [hp] at hbox hsb ⊢
 go_loopw [9,10,44] (fun lv en i wr=>∃ (k E:Nat) (o':Own),k<=n/\i = .int .i64 k/\en = .int .i64 (E:Int)/\Hid (E=if t<k then t else n)/\aj (ak L) w o wr o'/\BZ wr o' L p pd (Ad.raw f n (Ad.newest (ps.take k)))/\Gl wr o' L p lv ((ps.take k).map fun p=>(CE p).1))
  (fun _ _ i _=>n - (intOf i).toNat)
 case atStart=>exact ⟨0,n,_,Nat.zero_le _,rfl,rfl,ae (by simp),hsb,hbox,Gl.nil _ _ _ _⟩
 case round =>
  obtain ⟨k,E,o1,J,rfl,rfl,hE,hst,U,hlv⟩:=hrel
  by_cases a6:k<n
  ·have hd1:=hh.out.step hst hND;have hrd:=aA hd1 ((f+k:Nat):Int) (i9.out k a6) hrow;have Bfn:(k:Int)<(n:Int):=om
   rw [show (((f+k:Nat):Int)).toNat=f+k from by omega,show ((f+k:Nat):Int)=(f:Int)+(k:Int) from by omega] at hrd;have qW:(d.seen (f+k)).length=512:=by
    obtain ⟨j8,hw2,j1,hw4, -, -⟩:=hh.out.wf;have:∀ (row:List (Nat × List UInt8)) (q:List UInt8),q.length=512->(∀ x ∈ row,x.2.length=512)->(Af.seenIn (f+k) q row).length=512:=by
     intro row
     induction row with
     | nil=>intro q hq _;exact hq
     | cons x r ih =>
      intro q hq hx;refine ih _ ?_ (fun y hy=>hx y (by simp [hy]));dsimp only;split
      ·exact hx x (by simp)
      ·exact hq
    exact this _ _ (Af.OX j1 om) (fun x hx=>(hw4 x hx).2)
   have a4:=Akd.out k a6;have hsn:=uZ.out k a6;have a5:=j0.out k a6;obtain ⟨P,hP⟩:=az (d.seen (f+k));rw [hP] at hrd qW a4 hsn a5;obtain ⟨S,hS⟩:=az (Ad.newest (ps.take k));rw [hS] at U hsn;obtain ⟨ls,hls⟩:=az (((ps.take k).map fun p=>(CE p).1));have e9:((ps.take (k+1)).map fun p=>(CE p).1)=ls++[(CE P).1]:=by rw [a5,List.map_append,hls];rfl
   have c3:ls.length=k:=by rw [<-hls,List.length_map,List.length_take,zA.out];omega
   rw [hls] at hlv;obtain ⟨la,lc,rfl⟩:=hlv.form;rw [c3] at hlv ⊢;have Akd:=ae a4;have uZ:=ae hsn;have Auy:=ae e9;have AuA:=ae c3;clear a4 hsn e9 hls c3 a5 hS hP hd1;go_wp2_with fail;refine hrd.mono ?_;rintro e W1 ⟨v1,o2,rfl,hs1,b,rfl,j2,c6,f0⟩;have f1:=hst.trans (hs1.only L);have AbC:=U.step hs1 id id;have f2:=hlv.step hs1 id id;have f5:Bytes W1 o2 (.slice (some ⟨b,0,none⟩) 512 512) P := .inr ⟨b,0,512,by rw [qW],om,by simp [maxLen],by rw [f0],au c6,AV c6⟩;have hdr:aj ai W1 o2 W1.drew o2:=(aj.refl _ _ _).drew;have hst2:=f1.trans (hdr.only L);have u:=AbC.step hdr id id;have hlv2:=f2.step hdr id id;have zC:=f5.step hdr id;have c7:=zC.part 0 8 om om;have hq2:=zC.part 504 512 om om;simp only [List.drop_zero,Nat.zero_add,Nat.sub_zero,Nat.reduceSub] at c7 hq2;rw [List.take_of_length_le (i:=8) (l:=P.drop 504) (by simp;omega)] at hq2;have vY:=u.held;obtain ⟨-, -, -,d3, -, -, -⟩:=vY;simp only [Ad.raw] at d3;clear hrd hst U hlv hs1 f1 AbC f2 f5 hdr;go_wp2_with fail;have f3:W1.drew.frozen? ⟨p,3,none⟩=false:=by obtain ⟨_,_,_,hf, -⟩:=u.open;exact hf 3
   have c8:=FK c7 (by simp;omega);have hn2:=FK hq2 (by simp;omega);clear c7 hq2;obtain ⟨A,hA⟩:=az (num (P.take 8));obtain ⟨B,hB⟩:=az (num (P.drop 504));rw [hA] at c8;rw [hB] at hn2;have hsn:=uZ.out;rw [hA,hB] at hsn;have uZ:=ae hsn;clear hsn hA hB;refine JH (fun i w'=>i<17 \/ 18<=i->w'.cell? ⟨p,3,none⟩=some (.int .u64 (S.toNat:Int))) (by kernel_rfl) ?_;refine tT 0 (h:=tT 1 (h:=tT 2 (h:=tT 3 (h:=?_))));refine tG 4 (hN:=by exact fun j w hd h=>h (Nh (lo:=17) (hi:=18) (by kernel_rfl) j hd)) (h:=?_);refine tT 5 (h:=tT 6 (h:=tT 8 (h:=tT 9 (h:=tT 10 (h:=tT 11 (h:=?_))))));rw [wrap_i64 (n:=504) om om];refine tT 12 (h:=?_);refine BX (i:=7) rfl (by kernel_rfl) ?_;go_wp2_with fail;refine c8.mono ?_;rintro e w' ⟨rfl,rfl⟩;go_wp2_with fail;refine ⟨.inl trivial, ?_⟩;refine BX (i:=13) rfl (by kernel_rfl) ?_;go_wp2_with fail;refine hn2.mono ?_;rintro e w' ⟨rfl,rfl⟩;go_wp2_with fail;refine ⟨.inl trivial, ?_⟩;refine AO (i:=14) (St:=(fun _=>True)) (v := .int .u64 ((Ad.KX (Ad.KX S A) B).toNat:Int)) rfl (by kernel_rfl) (by kernel_rfl) (by kernel_rfl) (fun _ _ _ _=>trivial) (fun _ _ _ h=>h) (Or.inl ⟨by rfl, ?_⟩) (trivial) ?_
   ·intro w j3;(try dsimp only at j3);go_simp;exact Yc S A B
   simp only [Act.put,GL,DL,lss];refine tT 15 (h:=tT 16 (h:=?_));refine BX (i:=17) rfl (by kernel_rfl) ?_;go_wp2_with fail;refine ⟨.inr (fun h=>by rcases h with h | h <;> omega), ?_⟩
   refine JI (by kernel_rfl) ?_ _;clear c8 hn2;obtain ⟨M,hM⟩:=az (Ad.KX (Ad.KX S A) B);rw [hM];have f6:(W1.setCell ⟨p,3,none⟩ (.int .u64 (M.toNat:Int))).drew=W1.drew.setCell ⟨p,3,none⟩ (.int .u64 (M.toNat:Int)):=rfl;rw [f6];have f7:o2 p=(L,0):=by obtain ⟨_,_,_,_,_,h,_⟩:=u;exact h
   have hse:=u.DC 3 (.int .u64 (M.toNat:Int));have f8:=u.set (m':=Ad.raw f n M) hL 3 (.int .u64 (M.toNat:Int)) (fun rv=>rfl) rfl u.wf;have f9:=hst2.trans hse;have g0:=hlv2.set hL ⟨p,3,none⟩ (.int .u64 (M.toNat:Int)) (by rw [f7];simp) (by rw [f7]);have g7:=zC.step hse hN;have AyR:Hid (Ad.newest (ps.take (k+1))=M):=ae (by rw [uZ.out,hM]);clear hM f6 hse u hst2 hlv2 zC d3 f3 uZ c6 j2 f0;generalize W1.drew.setCell ⟨p,3,none⟩ (.int .u64 (M.toNat:Int))=W2 at *;have c9:=ZR g7 qW;obtain ⟨x,okb,hx⟩:∃ x okb,CE P=(x,okb):=⟨_,_,rfl⟩;rw [hx] at c9;have O:=ae hx;clear hx g7;go_wp2_with fail;refine c9.mono ?_;rintro e W3 ⟨v3,o3,rfl,b2,bv,rfl,hbv⟩;have pX:=f9.trans (b2.only L);have AuE:=f8.step b2 id id;have Ahi:=g0.step b2 id id;have hal:=ae (AB (P:=prog) W3 238 _ Zp);have g8:=Be W3 #[.int .u64 0, .int .i64 0, .int .i64 0, .slice none 0 0] 238 (BQ x bv) rfl;obtain ⟨d1, -⟩:=Ba (P:=prog) (ty:=238) (vs:=BQ x bv) (heap_alloc_new W3 (.cells [.int .u64 0, .int .i64 0, .int .i64 0, .slice none 0 0].toArray 238)) rfl (by kernel_rfl) (IK hbv);rw [g8] at d1;have b3:=ae d1;have a7:=(aj.refl ai W3 o3).alloc (.cells (BQ x bv).toArray 238) (0,0);have hxb:(W3.alloc (.cells (BQ x bv).toArray 238)).heap[W3.heap.size]?=some (.cells (BQ x bv).toArray 238 (0,0)):=heap_alloc_new W3 _;have hst5:=pX.trans (a7.only L);have d5:=AuE.step a7 id id;have AqA:=Ahi.step a7 id id;have Aoc:=hbv.step a7 id;clear g8 d1 pX f9 AuE f8 Ahi g0 b2 c9 hbv;have hone:=IK Aoc;have hW4:∃ W4,W3.alloc (.cells (BQ x bv).toArray 238)=W4:=⟨_,rfl⟩;obtain ⟨W4,hW4⟩:=hW4;have hld:=ae (TF (AV (w:=W4) (b:=W3.heap.size) (cs:=BQ x bv) (by rw [<-hW4];exact hxb)));have d6:=ae (QV W4 x bv hone);rw [hW4] at b3 hst5 d5 AqA Aoc hxb;generalize Ak o3 W3.heap.size (0,0)=o4 at *;have hsA:=(aj.refl ai W4 o4).alloc (.cells (BQ x bv).toArray 238) (0,0);have pW:=hst5.trans (hsA.only L);have AqD:=d5.step hsA id id;have AnU:=AqA.step hsA id id;have g9:=Aoc.step hsA id;have hpW:p<=(W4.alloc (.cells (BQ x bv).toArray 238)).heap.size:=by have:=AqD.lt;omega
   obtain ⟨v',W5,o5,h5,h6,a8,d7⟩:=AnU.append hpW hL (by rw [AuA.out];omega) (heap_alloc_new W4 (.cells (BQ x bv).toArray 238)) g9;have qF:=pW.trans a8;have h7:BZ W5 o5 L p pd (Ad.raw f n M):=by
    obtain ⟨rv,vs,g1,g2,g3,g4,g5,g6⟩:=AqD;have a3:=au g1;have j4:Value.ownBlock (.slice la k lc) ≠ some p:=by
     intro hx;obtain ⟨_,_,_,q3⟩:=AnU;have:=q3 p hx;rw [g4] at this;simp at this
    refine ⟨rv,vs,(d7 p j4 a3).trans g1,Ci g2 fun k' hk'=>d7 k' ?_ (g2.lt k' hk').2,g3.step a8 (fun h=>hL h.symm),(a8.own p a3).trans g4,fun k' hk'=>(a8.own k' (g2.lt k' hk').2).trans (g5 k' hk'),g6⟩;intro hx;obtain ⟨_,_,_,q3⟩:=AnU;have h1:=q3 k' hx;rw [g5 k' hk'] at h1;simp at h1
   have Aax:=ae h5;have hE':okb=true->Hid (E=if t<k+1 then t else n):=by
    intro W;subst W;have hi:=Akd.out;rw [O.out] at hi;refine ae ?_;rw [hE.out]
    by_cases h1:t<k
    ·rw [if_pos h1,if_pos om]
    ·have:=(hi om).1 rfl;rw [if_neg h1,if_neg om]
   have b4:okb=false->(t<k->(¬ (k:Int)<(E:Int))/\Hid (E=if t<k+1 then t else n))/\(¬ t<k->(k:Int)<(E:Int)/\Hid (k=if t<k+1 then t else n)):=by
    intro W;subst W;have hi:=Akd.out;rw [O.out] at hi;have hEE:=hE.out;refine ⟨fun h1 => ?_,fun h1 => ?_⟩
    ·rw [if_pos h1] at hEE;exact ⟨om,ae (by rw [if_pos om];exact hEE)⟩
    ·rw [if_neg h1] at hEE;have h2:¬ k<t:=fun h=>by have:=(hi om).2 h;cases this
     exact ⟨om,ae (by rw [if_pos om];omega)⟩
   have hrel:∀ E',Hid (E'=if t<k+1 then t else n)->Hid (∃ (k' E'':Nat) (o':Own),k'<=n/\Value.int .i64 ((k:Int)+1) = .int .i64 k'/\Value.int .i64 (E':Int) = .int .i64 (E'':Int)/\Hid (E''=if t<k' then t else n)/\aj (ak L) w o W5 o'/\BZ W5 o' L p pd (Ad.raw f n (Ad.newest (ps.take k')))/\Gl W5 o' L p v' ((ps.take k').map fun p=>(CE p).1)):=fun E' hE' =>
    ae ⟨k+1,E',o5,a6,by rw [show (k:Int)+1=((k+1:Nat):Int) from by omega],rfl,hE',qF,by rw [AyR.out];exact h7,by rw [Auy.out,O.out];exact h6⟩
   have AgN:=ae hrel;rw [hW4] at *;clear h5 hrel h7 qF a8 h6 AnU AqD pW hsA g9 hst5 d5 AqA Aoc hone a7 d7 hpW
   cases W:okb with
   | true =>
    rw [W] at O;have hq:=hE' W;clear W;have hr:=AgN.out E hq;clear b4 hE' AgN
    go_wp2_with (first
     | ((with_reducible apply Bo);exact hld.out;simp only [Act.put,GL,DL,lss])
     | ((with_reducible apply AU);exact hal.out;simp only [Act.put,GL,DL,lss])
     | ((with_reducible apply AC);exact b3.out;simp only [Act.put])
     | ((with_reducible apply BO #[(0, .agg (BQ x bv).toArray)] rfl);exact d6.out;simp only [Act.put,GL,DL,lss])
     | ((with_reducible apply Bl);exact Aax.out;simp only [Act.put,GL,DL,lss]))
    go_roundw
    case rel=>exact hr.out
    case measure=>simp [intOf];omega
   | false =>
    rw [W] at O;have hq:=b4 W;clear W
    by_cases ht:t<k
    ·obtain ⟨q1,q2⟩:=hq.1 ht;clear hq ht;have hr:=AgN.out E q2;clear b4 hE' AgN
     go_wp2_with (first
     | ((with_reducible apply Bo);exact hld.out;simp only [Act.put,GL,DL,lss])
     | ((with_reducible apply AU);exact hal.out;simp only [Act.put,GL,DL,lss])
     | ((with_reducible apply AC);exact b3.out;simp only [Act.put])
     | ((with_reducible apply BO #[(0, .agg (BQ x bv).toArray)] rfl);exact d6.out;simp only [Act.put,GL,DL,lss])
     | ((with_reducible apply Bl);exact Aax.out;simp only [Act.put,GL,DL,lss]))
     go_roundw
     case rel=>exact hr.out
     case measure=>simp [intOf];omega
    ·obtain ⟨q1,q2⟩:=hq.2 ht;clear hq ht;have hr:=AgN.out k q2;clear b4 hE' AgN
     go_wp2_with (first
     | ((with_reducible apply Bo);exact hld.out;simp only [Act.put,GL,DL,lss])
     | ((with_reducible apply AU);exact hal.out;simp only [Act.put,GL,DL,lss])
     | ((with_reducible apply AC);exact b3.out;simp only [Act.put])
     | ((with_reducible apply BO #[(0, .agg (BQ x bv).toArray)] rfl);exact d6.out;simp only [Act.put,GL,DL,lss])
     | ((with_reducible apply Bl);exact Aax.out;simp only [Act.put,GL,DL,lss]))
     go_roundw
     case rel=>exact hr.out
     case measure=>simp [intOf];omega
  ·obtain rfl:n=k:=om
   have h8:E=t:=by
    rw [hE.out]
    by_cases h1:t<n
    ·rw [if_pos h1]
    ·rw [if_neg h1];omega
   rw [h8];have htake:ps.take n=ps:=List.take_of_length_le (by rw [zA.out];exact Nat.le_refl _);rw [htake] at U hlv;have d8:(ps.map fun p=>(CE p).1).take t=Ad.Ah ps:=by
    unfold Ad.Ah;rw [List.prefix_iff_eq_take.1 (List.takeWhile_prefix (fun p=>(CE p).2) (l:=ps)),nD.out,List.map_take]
   have b5:(ps.map fun p=>(CE p).1).length=n:=by rw [List.length_map];exact zA.out
   have a2:(Ad.Ah ps).length=t:=by rw [<-d8,List.length_take,b5];omega
   have h9:Ad.AY f ps={ Ad.raw f n (Ad.newest ps) with Dx:=Ad.Di (Ad.Ah ps),end':=if Ad.Di (Ad.Ah ps) then (Ad.readAll (Ad.Ah ps)).1 else 1,records:=if Ad.Di (Ad.Ah ps) then (Ad.readAll (Ad.Ah ps)).2.2 else [] }:=by
    unfold Ad.AY Ad.raw;rw [zA.out]
   have i0:∀ x ∈ Ad.Ah ps,x.bytes.length<=480/\x.of'<65536/\x.at'<65536:=by
    intro x hx;obtain ⟨j,hj⟩:=List.mem_iff_getElem?.1 hx;obtain ⟨q,_,W,rfl⟩:=Ad.Gu hj;obtain ⟨h1,_,h3,_⟩:=Lp W;rw [h1];have i1:∀ l:List UInt8,l.length<=2->(num l).toNat<65536:=fun l hl=>by
     rw [EL om];exact Nat.lt_of_lt_of_le (Jg l) (by have:=Nat.pow_le_pow_right (n:=256) om hl;omega)
    exact ⟨PU q h3,i1 _ (by simp;omega),i1 _ (by simp;omega)⟩
   have Arr:=ae h9;have Avs:=ae i0;clear h9 i0;obtain ⟨S,hS⟩:=az (Ad.newest ps);rw [hS] at U;have vY:=U.held;obtain ⟨-, -, -,d3, -, -, -⟩:=vY;simp only [Ad.raw] at d3;have a9:=ae hS;clear hS hE h8
   by_cases hS1:S=BitVec.allOnes 64
   ·have hSi:(S.toNat:Int)=18446744073709551615:=by rw [hS1];rfl
    rw [hSi] at d3;have j5:Hid (Ad.newest ps=BitVec.allOnes 64):=ae (by rw [a9.out];exact hS1);clear hS1 hlv U;go_wp2_with fail
    go_ret2
    exact ⟨_,o1,rfl,hst,fun _=>rfl,fun h=>absurd j5.out h⟩
   ·have hSi:((S.toNat:Int) == 18446744073709551615)=false:=by
     rw [beq_eq_false_iff_ne];intro h;exact hS1 (BitVec.eq_of_toNat_eq (by rw [BitVec.toNat_allOnes];omega))
    obtain ⟨la,lc,rfl⟩:=hlv.form;rw [b5] at hlv ⊢;have b1:Hid (Ad.newest ps ≠ BitVec.allOnes 64):=ae (by rw [a9.out];exact hS1);clear hS1
    by_cases ht0:t=0
    ·-- no leaf at all
     have i2:Ad.Ah ps=[]:=List.eq_nil_of_length_eq_zero (by rw [a2];exact ht0);have f4:wr.frozen? ⟨p,4,none⟩=false:=by obtain ⟨_,_,_,hf, -⟩:=U.open;exact hf 4
     obtain ⟨_,_,⟨-, -, -, -,d4, -⟩, -⟩:=U.open;simp only [Ad.raw] at d4;have hsx:=U.DC 4 (.bool false);have hlx:=U.set (m':=Ad.raw f n S) hL 4 (.bool false) (fun rv=>rfl) rfl U.wf;have Alh:=hst.trans hsx;have hO:Ad.AY f ps=Ad.raw f n S:=by rw [Arr.out,i2,a9.out];rfl
     have O:=ae (show aj (ak L) w o _ o1/\BZ _ o1 L p pd (Ad.AY f ps) from ⟨Alh,by rw [hO];exact hlx⟩);subst ht0;clear hO hlx hsx Alh U hlv hst i2 d8 a2;go_wp2_with fail
     go_ret2
     exact ⟨_,o1,rfl,O.out.1,fun h=>absurd h b1.out,fun _=>⟨p,om,rfl,O.out.2⟩⟩
    ·have i3:1<=t:=om
     obtain ⟨g,cap,hgv,hcap,j9,xX,hog, -,Y⟩:=hlv.lvs hL t i3 (by rw [b5];exact htn);rw [d8] at Y;rw [b5] at hgv hcap;simp only [Value.slice.injEq,true_and] at hgv;obtain ⟨rfl,rfl⟩:=hgv;obtain ⟨rv,vs,g1,g2,g3,g4,g5,g6⟩:=U;have hpg:p ≠ g:=by rintro rfl;rw [g4] at hog;simp at hog
     have hvs:vs=[]:=List.eq_nil_of_length_eq_zero (by simpa [Ad.raw] using g2.1);subst hvs;have u:BZ wr (Ak o1 g (0,0)) L p pd (Ad.raw f n S):=
      ⟨rv,[],g1,g2,JG.nil _ _,by rw [BI _ _ hpg];exact g4,fun k J=>by
       rw [BI _ _ (by rintro rfl;rw [g5 _ J] at hog;simp at hog)];exact g5 k J,g6⟩
     have hst2:aj (ak L) w o wr (Ak o1 g (0,0)):=⟨hst.os,hst.tape,hst.output,hst.size,fun k J=>by rw [BI _ _ om];exact hst.own k J,hst.block⟩;generalize Ak o1 g (0,0)=o2 at *;obtain ⟨x0,r,d9⟩:∃ x0 r,Ad.Ah ps=x0 :: r:=by
      cases hl:Ad.Ah ps with
      | nil=>rw [hl] at a2;simp at a2;omega
      | cons x0 r=>exact ⟨x0,r,rfl⟩
     have AvB:=Y.at;rw [a2] at AvB;obtain ⟨b',k3,cap',i4, -, -,i5⟩:=AvB;simp only [Value.slice.injEq,Option.some.injEq,Addr.mk.injEq] at i4;obtain ⟨⟨rfl,rfl, -⟩, -,rfl⟩:=i4;obtain ⟨k7,hb0,b6⟩:=i5 0 x0 (by rw [d9];rfl);obtain ⟨a0,c0,rfl⟩:=Aq hb0;have e1:=b6 1 _ rfl;have e2:=b6 2 _ rfl;have e3:=b6 3 _ rfl;simp only [Nat.zero_mul,Nat.add_zero,Nat.zero_add] at e1 e2 e3;have b7:=Y;have f4:wr.frozen? ⟨p,4,none⟩=false:=by obtain ⟨_,_,_,hf, -⟩:=u.open;exact hf 4
     obtain ⟨_,_,⟨-, -, -, -,d4, -⟩, -⟩:=u.open;simp only [Ad.raw] at d4;have hih:Ad.Di (Ad.Ah ps)=(x0.at' == 0 && x0.of' == 0 && x0.bytes.length == 0):=by rw [d9];rfl
     obtain ⟨A,hA⟩:=az (x0.at');obtain ⟨F,hF⟩:=az (x0.of');obtain ⟨N,hNb⟩:=az (x0.bytes.length);rw [hA] at e1;rw [hF] at e2;rw [hNb] at e3;rw [hA,hF,hNb] at hih;have hsx:=u.DC 4 (.bool false);have hlx:=u.set (m':=Ad.raw f n S) hL 4 (.bool false) (fun rv=>rfl) rfl u.wf;have O:Ad.Di (Ad.Ah ps)=false->Hid (aj (ak L) w o _ o2/\BZ _ o2 L p pd (Ad.AY f ps)):=fun hh =>
      ae ⟨hst2.trans hsx,by rw [show Ad.AY f ps=Ad.raw f n S from by rw [Arr.out,hh,a9.out];rfl];exact hlx⟩
     have hti:(0:Int)<(t:Int):=om
     have hni:(0:Int)<(n:Int):=om
     have b8:=ae hih;clear hih d9 hA hF hNb b6 i5 hb0 g1 g2 g3 g4 g5 g6 hst hog hlv hlx hsx
     by_cases e0:A=0
     ·subst e0
      by_cases hF0:F=0
      ·subst hF0
       by_cases e4:N=0
       ·subst e4;have AuR:Ad.Di (Ad.Ah ps)=true:=by rw [b8.out];rfl
        have hsx:=u.DC 4 (.bool true);have hlx:=u.set (m':={ Ad.raw f n S with Dx:=true }) hL 4 (.bool true) (fun rv=>rfl) rfl u.wf;have Auv:=Y.step hsx hN;have i6:=YL hL hlx (Ad.Ah ps) _ Auv (by rw [a2];exact i3) (by rw [a2];exact htn) Avs.out rfl rfl;have Alh:=hst2.trans hsx;have hO:Hid (({ ({ Ad.raw f n S with Dx:=true }:Ad) with records:=(Ad.readAll (Ad.Ah ps)).2.2,end':=(Ad.readAll (Ad.Ah ps)).1 }:Ad)=Ad.AY f ps):=ae (by
         rw [Arr.out,AuR,a9.out];rfl)
        have c4:(wr.setCell ⟨p,4,none⟩ (.bool true)).cell? ⟨p,4,none⟩=some (.bool true):=by
         obtain ⟨_,_,⟨-, -, -, -,q4, -⟩, -⟩:=hlx.open;exact q4
        have k8:(t:Int)<=(lc:Int):=om
        clear O u hst2 Y b7 hlx hsx Auv AuR hpg;go_wp2_with fail;refine i6.mono ?_;rintro e W6 ⟨v6,o6,rfl,hs6,rfl,hl6⟩;have wY:BZ W6 o6 L p pd (Ad.AY f ps):=by rw [<-hO.out];exact hl6
        have hx:=ae (aI (Alh.trans hs6) wY);clear i6 hl6 wY hs6 Alh;go_wp2_with fail
        go_ret2
        exact ⟨_,o6,rfl,hx.out.1,fun h=>absurd h b1.out,fun _=>⟨p,om,rfl,hx.out.2⟩⟩
       ·have hz:((N:Int) == 0)=false:=by rw [beq_eq_false_iff_ne];omega
        have hx:=O (by rw [b8.out];simp [e4]);clear O u hst2 Y b7 e4;go_wp2_with fail
        go_ret2
        exact ⟨_,o2,rfl,hx.out.1,fun h=>absurd h b1.out,fun _=>⟨p,om,rfl,hx.out.2⟩⟩
      ·have hz:((F:Int) == 0)=false:=by rw [beq_eq_false_iff_ne];omega
       have hx:=O (by rw [b8.out];simp [hF0]);clear O u hst2 Y b7 hF0;go_wp2_with fail
       go_ret2
       exact ⟨_,o2,rfl,hx.out.1,fun h=>absurd h b1.out,fun _=>⟨p,om,rfl,hx.out.2⟩⟩
     ·have hz:((A:Int) == 0)=false:=by rw [beq_eq_false_iff_ne];omega
      have hx:=O (by rw [b8.out];simp [e0]);clear O u hst2 Y b7 e0;go_wp2_with fail
      go_ret2
      exact ⟨_,o2,rfl,hx.out.1,fun h=>absurd h b1.out,fun _=>⟨p,om,rfl,hx.out.2⟩⟩
end
theorem Af.NQ (f:Nat->Nat) (pages:List (List UInt8)) (row:List (Nat × List UInt8)):(Af.Dk f pages row).length=pages.length:=by
 have q:∀ (l:List ((Nat × List UInt8) × Nat)) (ps:List (List UInt8)),(l.foldl (Af.Gf f) ps).length=ps.length:=by
  intro l
  induction l with
  | nil=>intro ps;rfl
  | cons x r u=>intro ps;rw [List.foldl_cons,u];simp [Af.Gf]
 exact q _ _
namespace Ad
structure Up (s:Ad × Af):Prop where
 ld:s.1.dead=false
 dd:s.2.dead=false
 left:s.2.left<0
 fit:s.1.first+s.1.n<=s.2.pages.length
 n2:2<=s.1.n
 e1:1<=s.1.end'
 en:s.1.end'<=s.1.n
 row:s.2.row=[]
def Like (d d':Af):Prop:=d'.dead=d.dead/\d'.left=d.left/\d'.row=[]/\d'.pages.length=d.pages.length
theorem AkD {s:Ad × Af}(q:s.1.dead=false) (r:s.2.dead=false) (b:List UInt8) (u:s.1.n - s.1.end'<many b):Ag b s=(s,4):=by
 unfold Ag alive;rw [q,r];simp only [Bool.or_self,Bool.false_eq_true,if_false,steps,step1,if_pos u,q];obtain ⟨l,d⟩:=s
 cases l
 simp only at q;subst q;simp
end Ad
theorem NY:num (Af.blank.take 8)=0#64/\num (Af.blank.drop 504)=0#64:=by decide +kernel
theorem MN:∀ k,Ad.newest (List.replicate k Af.blank)=0#64
 | 0=>rfl
 | k+1=>by
  have h:=MN k;rw [List.replicate_succ'];unfold Ad.newest at *;rw [List.foldl_append,h];simp only [List.foldl_cons,List.foldl_nil,NY.1,NY.2]
  decide
theorem TJ (k:Nat):Ad.Ah (List.replicate k Af.blank)=[]:=by
 cases k with
 | zero=>rfl
 | succ k =>
  have h:(CE Af.blank).2=false:=by unfold CE;rw [if_pos (.inl NY.1)]
  unfold Ad.Ah;rw [List.replicate_succ,List.takeWhile_cons_of_neg (by simp [h])];rfl
theorem Qs {w:World}{o:Own}{L p pd:Nat}{m:Ad}(h:BZ w o L p pd m) (r:List (List UInt8)) (J:m.records=r) :
  Calls prog 124 #[.pointer (some ⟨p,0,none⟩)] w (XL ai w o fun v w' o'=>∃ vs,w'.ownsRow w.heap.size 29 1 v r.length vs/\AsF w w' vs r/\Ey w' o' vs r/\∀ k,w.heap.size<=k->o' k=(0,0)):=by
 refine (We h).mono ?_;rintro e w' ⟨v,vs,rfl,hb,E,u⟩;rw [J] at E u;have O:aj ai w o w' (ext w o):=⟨hb.os,hb.tape,hb.output,hb.size,fun k q=>if_pos q,fun k q _=>hb.block k q⟩;refine ⟨v,ext w o,rfl,O,vs,E,u,⟨u.1,fun i x l U hl => ?_⟩,fun k q=>if_neg om⟩;have F:=u.2 i x l U hl;exact Ry F (fun k q=>by unfold ext;rw [if_neg (by have:=(F.lt k q).1;omega)])
theorem GU (w:World) (cs:List Value) (n c:Nat):(convert 29 29 (.slice (some ⟨w.heap.size,0,none⟩) n c)).run prog (w.alloc (.cells cs.toArray 5)) = .ok (.slice (some ⟨w.heap.size,0,none⟩) n c) (w.alloc (.cells cs.toArray 5 (cs.length,cs.length+1))):=by
 have:=Go.Lib.run_convert_bytes_const (P:=prog) w 29 5 cs.toArray n c underlying29 underlying5
 simpa using this
theorem SV {w:World}{o:Own}{L p pd:Nat}{m:Ad}(h:BZ w o L p pd m) (r:Nat) (q:m.room=r):Calls prog 180 #[.pointer (some ⟨p,0,none⟩)] w (XL ai w o fun v _ _=>v = .int .i64 (r:Int)):=by
 have:=UI h;rw [q] at this;exact this
theorem NW {w:World}{o:Own}{L D p pd:Nat}{s q:Ad × Af}{e:Int}(r:L ≠ 0) (u:D ≠ 0) (E:L ≠ D) (h:LD w o L D p pd s) (F:s.2.row.length<=700000) (b:List UInt8) (bv:Value) (hb:Bytes w o bv b) (J:capLe bv) (O:b.length<=200000000000000) (U:Ad.Ag b s=(q,e)) :
  Calls prog 181 #[.pointer (some ⟨p,0,none⟩),bv] w (XL (In L D) w o fun v w' o'=>v = .int .i64 e/\LD w' o' L D p pd q):=by
 have:=Xt r u E h F b bv hb J O;rw [U] at this;exact this
theorem UK {w:World}{o:Own}{L D p pd:Nat}{s q:Ad × Af}{e:Int}(r:L ≠ 0) (u:D ≠ 0) (E:L ≠ D) (h:LD w o L D p pd s) (F:s.2.row.length<=700000) (J:Ad.reset s=(q,e)) :
  Calls prog 183 #[.pointer (some ⟨p,0,none⟩)] w (XL (In L D) w o fun v w' o'=>v = .int .i64 e/\LD w' o' L D p pd q):=by
 have:=Yz r u E h F;rw [J] at this;exact this
def iJ (b:UInt8) (m:Nat):List UInt8:=(List.range m).map fun i=>b+UInt8.ofNat (i / 7)
theorem XG {w:World}{o:Own}{b e:Nat}{v:Value}{n:Nat}{xs:List Value}(h:w.ownsRow b e 1 v n xs) (u:∀ k,v.ownBlock=some k->(o k).1=0):sH w o v n xs:=by
 rcases h.2 with ⟨rfl,h0⟩ | ⟨g,cap,cur,rfl,J,q,F,h4,O,r⟩
 ·subst h0;exact .inl ⟨⟨_,_,rfl⟩,rfl,List.eq_nil_of_length_eq_zero h.1⟩
 ·refine .inr ⟨g,0,cap,rfl,F,h4,u g rfl,au q, ?_⟩;have:w.rangeAt g 0 ((cur.toList.drop 0).take n):=BU (w:=w) (b:=g) (cs:=cur.toList) (E:=e) (fr:=(0,0)) (by simpa using q) 0 n;rw [List.drop_zero] at this;rw [Nat.mul_one] at r
  rwa [r] at this
theorem ZM {A:List UInt8}(h:A.length=8) (hn:Apz A<65536):∃ x y:UInt8,A=[0,0,0,0,0,0,x,y]/\Apz A=x.toNat*256+y.toNat:=by
 have r:∀ x y:UInt8,Apz [0,0,0,0,0,0,x,y]=x.toNat*256+y.toNat:=fun x y=>by simp [Apz]
 obtain ⟨N,q⟩:=az (Apz A);rw [q] at hn ⊢;have e1:(UInt8.ofNat (N / 256)).toNat=N / 256:=by rw [UInt8.toNat_ofNat'];omega
 have e2:(UInt8.ofNat (N % 256)).toNat=N % 256:=by rw [UInt8.toNat_ofNat'];omega
 refine ⟨UInt8.ofNat (N / 256),UInt8.ofNat (N % 256), ?_, ?_⟩
 ·apply AeJ
  ·simpa using h
  ·rw [r,e1,e2,q];omega
 ·rw [e1,e2];omega
theorem iH {A B:List UInt8}(r:A.length=8) (E:B.length=8) (a:Apz A<65536) (b:Apz B<65536) (n:Nat) :
  A.take n++B.drop n=B \/ A.take n++B.drop n=A \/ (Apz (A.take n++B.drop n)=Apz A / 256*256+Apz B % 256):=by
 obtain ⟨x,y,rfl,F⟩:=ZM r a;obtain ⟨u,v,rfl,hb⟩:=ZM E b;have O:=y.toNat_lt;have hv:=v.toNat_lt
 by_cases q:8<=n
 ·right;left
  rw [List.take_of_length_le (by simpa using q),List.drop_eq_nil_of_le (by simpa using q),List.append_nil]
 by_cases J:n=7
 ·right;right
  subst J;rw [F,hb];have:Apz (List.take 7 [0,0,0,0,0,0,x,y]++List.drop 7 [0,0,0,0,0,0,u,v])=x.toNat*256+v.toNat:=by simp [Apz]
  rw [this];omega
 ·left
  have:n=0 \/ n=1 \/ n=2 \/ n=3 \/ n=4 \/ n=5 \/ n=6:=om
  rcases this with rfl | rfl | rfl | rfl | rfl | rfl | rfl <;> rfl
namespace Ad
def DZ (K:Nat) (p:List UInt8):Prop:=p.length=512/\Apz (p.take 8)<=K/\Apz (p.drop 504)<=K/\(Apz (p.take 8) % 256=Apz (p.drop 504) % 256->Apz (p.drop 504) / 256<=Apz (p.take 8) / 256)
theorem DZ.mono {K K':Nat}{p:List UInt8}(h:DZ K p) (q:K<=K'):DZ K' p:=⟨h.1,Nat.le_trans h.2.1 q,Nat.le_trans h.2.2.1 q,h.2.2.2⟩
theorem VP {p:List UInt8}(_q:p.length=512):p=p.take 8++((p.drop 8).take 496++p.drop 504):=by
 rw [show p.drop 504=(p.drop 8).drop 496 from by rw [List.drop_drop],List.take_append_drop,List.take_append_drop]
theorem ends {A M Z:List UInt8}(q:A.length=8) (r:M.length=496) (u:Z.length=8):(A++(M++Z)).take 8=A/\(A++(M++Z)).drop 504=Z/\(A++(M++Z)).length=512:=by
 refine ⟨List.take_left' q, ?_,by simp;omega⟩;rw [show 504=8+496 from rfl, <-List.drop_drop,List.drop_left' q,List.drop_left' r]
theorem WL {A R q R':List UInt8}(r:A.length=8) (u:q.length=8) {n:Nat}(hn:n<=8):Af.CG n (q++R') (A++R)=(q.take n++A.drop n)++R:=by
 unfold Af.CG;rw [List.take_append_of_le_length om,List.drop_append_of_le_length om,List.append_assoc]
theorem WJ {A M Z q r u:List UInt8}(E:A.length=8) (F:q.length=8) (J:M.length=496) (O:r.length=496) {m:Nat}(hn:m<=496):Af.CG (8+m) (q++(r++u)) (A++(M++Z))=q++((r.take m++M.drop m)++Z):=by
 unfold Af.CG;have e1:(q++(r++u)).take (8+m)=q++r.take m:=by
  rw [show 8+m=q.length+m from by omega,List.take_length_add_append,List.take_append_of_le_length om]
 have e2:(A++(M++Z)).drop (8+m)=M.drop m++Z:=by
  rw [show 8+m=A.length+m from by omega,List.drop_length_add_append,List.drop_append_of_le_length om]
 rw [e1,e2];simp [List.append_assoc]
theorem Ux {A M Z q r u:List UInt8}(E:A.length=8) (F:q.length=8) (J:M.length=496) (O:r.length=496) {m:Nat}(_U:m<=8) (_W:Z.length=8) (_Y:u.length=8):Af.CG (504+m) (q++(r++u)) (A++(M++Z))=q++(r++(u.take m++Z.drop m)):=by
 unfold Af.CG;have e1:(q++(r++u)).take (504+m)=q++(r++u.take m):=by
  rw [show 504+m=q.length+(r.length+m) from by omega,List.take_length_add_append,List.take_length_add_append]
 have e2:(A++(M++Z)).drop (504+m)=Z.drop m:=by
  rw [show 504+m=A.length+(M.length+m) from by omega,List.drop_length_add_append,List.drop_length_add_append]
 rw [e1,e2];simp [List.append_assoc]
theorem Yq {p:List UInt8}(h:(CE p).2=true):Apz (p.take 8)=Apz (p.drop 504):=by
 obtain ⟨-,q,r, -⟩:=Lp h;obtain ⟨e1, -, -, -, -,e2⟩:=AA.Hy (GY p) (PU p r);rw [q] at e1 e2;rw [e1,e2]
theorem ZQ {p:List UInt8}(h:Apz (p.take 8) ≠ Apz (p.drop 504)):(CE p).2=false:=by
 cases q:(CE p).2 with
 | false=>rfl
 | true=>exact (h (Yq q)).elim
theorem UX {x:AA}(q:x.bytes.length<=480):∃ M,M.length=496/\x.page=be 8 x.stamp++(M++be 8 x.stamp):=by
 obtain ⟨e1, -, -, -, -,e2⟩:=AA.Hy x q;have hl:=AA.ES q;have:=VP hl;rw [e1,e2] at this;exact ⟨_,by simp [hl],this⟩
theorem Vf (S:BitVec 64):Apz (be 8 S)=S.toNat:=by rw [Tu];exact Nat.mod_eq_of_lt (Nat.lt_of_lt_of_le S.isLt (by decide))
theorem JW {x:AA}(r:x.bytes.length<=480) {K:Nat}(q:x.stamp.toNat<=K):DZ K x.page:=by
 obtain ⟨M,u,e⟩:=UX r;obtain ⟨e1,e2,E⟩:=ends (Az 8 x.stamp) u (Az 8 x.stamp);unfold DZ;rw [e,e1,e2,E,Vf];exact ⟨rfl,q,q,fun _=>Nat.le_refl _⟩
theorem Rj {K:Nat}(x:AA) (hx:x.bytes.length<=480) (hK:K<x.stamp.toNat) (hS:x.stamp.toNat<65536) {p:List UInt8}(hp:DZ K p) (n:Nat) :
  (Af.CG n x.page p=p \/ Af.CG n x.page p=x.page \/ (CE (Af.CG n x.page p)).2=false)/\DZ (x.stamp.toNat+255) (Af.CG n x.page p):=by
 obtain ⟨hl,hf,hg,hc⟩:=hp;obtain ⟨M',J,e⟩:=UX hx;have q:=Az 8 x.stamp;have a5:=Vf x.stamp;have u:=VP hl;obtain ⟨A,W⟩:=az (p.take 8);obtain ⟨M,hM⟩:=az ((p.drop 8).take 496);obtain ⟨Z,Y⟩:=az (p.drop 504);have E:A.length=8:=by rw [<-W];simp [hl]
 have F:M.length=496:=by rw [<-hM];simp [hl]
 have r:Z.length=8:=by rw [<-Y];simp [hl]
 rw [W,hM,Y] at u;rw [W] at hf hc;rw [Y] at hg hc;clear W hM Y;have a3:DZ (x.stamp.toNat+255) p:=by
  obtain ⟨e1,e2,e3⟩:=ends E F r;unfold DZ;rw [u,e1,e2,e3];exact ⟨rfl,om,om,hc⟩
 have a2:DZ (x.stamp.toNat+255) x.page:=JW hx om;generalize hB:be 8 x.stamp=B at *;generalize x.stamp.toNat=S at *;have O:∀ {A2 M2 Z2:List UInt8},A2.length=8->M2.length=496->Z2.length=8->Apz A2<=S+255->Apz Z2<=S+255->Apz A2 ≠ Apz Z2->(Apz A2 % 256=Apz Z2 % 256->Apz Z2 / 256<=Apz A2 / 256) ->
   (CE (A2++(M2++Z2))).2=false/\DZ (S+255) (A2++(M2++Z2)):=by
  intro A2 M2 Z2 h1 h2 h3 h4 h5 h6 h7;obtain ⟨e1,e2,e3⟩:=ends h1 h2 h3;refine ⟨ZQ (by rw [e1,e2];exact h6), ?_⟩;unfold DZ;rw [e1,e2,e3];exact ⟨rfl,h4,h5,h7⟩
 by_cases h8:n<=8
 ·rw [e,u,WL E q h8]
  rcases iH q E om om n with h | h | h
  ·rw [h, <-u];exact ⟨.inl rfl,a3⟩
  ·rw [h];have:=O q F r om om om om;exact ⟨.inr (.inr this.1),this.2⟩
  ·by_cases U:Apz (B.take n++A.drop n)=Apz Z
   ·have a4:B.take n++A.drop n=A:=by
     apply AeJ
     ·simp [q,E];omega
     ·rw [h] at U ⊢;have h1:Apz A % 256=Apz Z % 256:=om
      have h2:=hc h1;omega
    rw [a4, <-u];exact ⟨.inl rfl,a3⟩
   ·have:=O (A2:=B.take n++A.drop n) (M2:=M) (Z2:=Z) (by simp [q,E];omega) F r (by rw [h];omega) om U (by rw [h];omega);exact ⟨.inr (.inr this.1),this.2⟩
 ·by_cases a6:n<=504
  ·obtain ⟨m,rfl⟩:∃ m,n=8+m:=⟨n - 8,om⟩;rw [e,u,WJ E q F J om];have:=O (A2:=B) (M2:=M'.take m++M.drop m) (Z2:=Z) q (by simp [F,J];omega) r om om om om;exact ⟨.inr (.inr this.1),this.2⟩
  ·by_cases a7:n<=512
   ·obtain ⟨m,rfl⟩:∃ m,n=504+m:=⟨n - 504,om⟩;rw [e,u,Ux E q F J om r q]
    rcases iH q r om om m with h | h | h
    ·rw [h];have:=O (A2:=B) (M2:=M') (Z2:=Z) q J r om om om om;exact ⟨.inr (.inr this.1),this.2⟩
    ·rw [h, <-e];exact ⟨.inr (.inl rfl),a2⟩
    ·by_cases U:Apz B=Apz (B.take m++Z.drop m)
     ·have:B.take m++Z.drop m=B:=by
       apply AeJ
       ·simp [q,r];omega
       ·exact U.symm
      rw [this, <-e];exact ⟨.inr (.inl rfl),a2⟩
     ·have:=O (A2:=B) (M2:=M') (Z2:=B.take m++Z.drop m) q J (by simp [q,r];omega) om (by rw [h];omega) U (by rw [h];omega);exact ⟨.inr (.inr this.1),this.2⟩
   ·have:Af.CG n x.page p=x.page:=by
     unfold Af.CG;rw [List.take_of_length_le (by rw [AA.ES hx];omega),List.drop_eq_nil_of_le om,List.append_nil]
    rw [this];exact ⟨.inr (.inl rfl),a2⟩
end Ad
namespace Af
theorem Lh (f:Nat->Nat) (pages:List (List UInt8)) (base:Nat) (g:Nat->List UInt8):∀ m,base+m<=pages.length->∀ j,
  (Dk f pages ((List.range m).map fun t=>(base+t,g t))).getD j []=if base<=j/\j<base+m then CG (f (j - base)) (g (j - base)) (pages.getD j []) else pages.getD j []
 | 0,_,j=>by rw [if_neg om];rfl
 | m+1,h,j=>by
  have r:=Lh f pages base g m om;rw [List.range_succ,List.map_append,List.map_cons,List.map_nil,Kw];unfold Gf;simp only [List.length_map,List.length_range];rw [VI _ _ _ _ _ (by rw [NQ];omega)]
  by_cases q:base+m=j
  ·rw [if_pos q,if_pos om,r,if_neg om,q,show j - base=m from by omega]
  ·rw [if_neg q,r]
   by_cases u:base<=j/\j<base+m
   ·rw [if_pos u,if_pos om]
   ·rw [if_neg u,if_neg om]
end Af
namespace Ad
def Oth (f n:Nat) (d d':Af):Prop:=d'.pages.length=d.pages.length/\∀ j,(j<f \/ f+n<=j)->d'.seen j=d.seen j
theorem Oth.refl (f n:Nat) (d:Af):Oth f n d d:=⟨rfl,fun _ _=>rfl⟩
theorem Oth.trans {f n:Nat}{d d1 d2:Af}(h:Oth f n d d1) (g:Oth f n d1 d2):Oth f n d d2:=⟨g.1.trans h.1,fun j q=>(g.2 j q).trans (h.2 j q)⟩
structure Good (K:Nat) (s:Ad × Af):Prop where
 dd:s.2.dead=false
 row:s.2.row=[]
 fine:Fine s
 pg:∀ j,j<s.1.n->DZ K (s.2.seen (s.1.first+j))
theorem Good.ld {K:Nat}{s:Ad × Af}(h:Good K s):s.1.dead=false:=by rw [h.fine.1];rfl
theorem Good.ends {K:Nat}{s:Ad × Af}(h:Good K s):1<=s.1.end'/\s.1.end'<=s.1.n:=by
 have:=fQ s.1.first (Aw s.2 s.1.first s.1.n) (by rw [Bq];have:=h.fine.2.2.1;omega)
 rw [Bq, <-h.fine.1] at this;exact this
theorem iG {p:List UInt8}(h:p.length=512):(num (p.take 8)).toNat=Apz (p.take 8)/\(num (p.drop 504)).toNat=Apz (p.drop 504):=⟨EL (by simp;omega),EL (by simp;omega)⟩
theorem Good.newest {K:Nat}{s:Ad × Af}(h:Good K s):newest (Aw s.2 s.1.first s.1.n)=s.1.stamp:=by
 have:=congrArg Ad.stamp h.fine.1;exact this.symm
theorem mem_seen {d:Af}{f n j:Nat}(q:j<n):d.seen (f+j) ∈ Aw d f n:=List.mem_of_getElem? (Cc d f n j q)
theorem Va {d:Af}{f n:Nat}{p:List UInt8}(h:p ∈ Aw d f n):∃ j,j<n/\p=d.seen (f+j):=by
 unfold Aw at h;simp only [List.mem_map,List.mem_range] at h;obtain ⟨j,q,rfl⟩:=h;exact ⟨j,q,rfl⟩
theorem Vh {K f n:Nat}{d:Af}(h:∀ j,j<n->DZ K (d.seen (f+j))):(Ad.newest (Aw d f n)).toNat<=K:=by
 rw [Aen];intro p hp;obtain ⟨j,q,rfl⟩:=Va hp;obtain ⟨r,u,E, -⟩:=h j q;obtain ⟨e1,e2⟩:=iG r;rw [e1,e2];exact ⟨u,E⟩
theorem Good.JK {K:Nat}{s:Ad × Af}(h:Good K s):s.1.stamp.toNat<=K:=by rw [<-h.newest];exact Vh h.pg
theorem Good.page {K:Nat}{s:Ad × Af}(h:Good K s) {j:Nat}(q:j<s.1.n):DZ s.1.stamp.toNat (s.2.seen (s.1.first+j)):=by
 obtain ⟨r,u,E,h4⟩:=h.pg j q;have hn:=Fe (mem_seen (d:=s.2) (f:=s.1.first) q)
 obtain ⟨e1,e2⟩:=iG r;rw [e1,e2,h.newest] at hn;exact ⟨r,hn.1,hn.2,h4⟩
theorem Good.next {K:Nat}{s:Ad × Af}(h:Good K s) (q:K<65536):(s.1.stamp+1#64).toNat=s.1.stamp.toNat+1:=by
 have:=h.JK;rw [BitVec.toNat_add];simp;omega
theorem UT {d:Af}(hd:d.dead=false) (u:d.wf) (a4:d.row=[]) (l:Ad) (of':Nat) (b:List UInt8) (k:Nat) (hf:l.first+l.end'+k<=d.pages.length) :
  (∃ d1 q,put l of' b k 0 d=(d1,0)/\d1.sync=(q,0)/\q.dead=false/\q.row=[]/\q.wf/\q.pages.length=d.pages.length/\(d.left<0->q.left=d.left) /\
   ∀ j,q.seen j=if l.first+l.end'<=j/\j<l.first+l.end'+k then AA.page ⟨l.stamp,j - (l.first+l.end'),of',part b (j - (l.first+l.end'))⟩ else d.seen j) \/
  (0<=d.left/\∃ q,(put l of' b k 0 d=(q,9) \/ ∃ d1,put l of' b k 0 d=(d1,0)/\d1.sync=(q,9))/\q.dead=true/\∃ m,m<=k/\q.pages=d.pages /\
   q.row=(List.range m).map fun t=>(l.first+l.end'+t,AA.page ⟨l.stamp,t,of',part b t⟩)):=by
 obtain ⟨m,d1,q1,J,r,E,q5,U,q7⟩:=put_any l l.stamp rfl of' b k 0 d hd hf;rw [a4,List.nil_append] at E;simp only [Nat.add_zero,Nat.zero_add] at E
 by_cases W:m=k
 ·subst W;rw [if_pos rfl] at J;have a5:d1.dead=false:=by rw [q5];simp
  have a7:0<d1.pages.length:=by rw [r];have:=u.1;omega
  have O:=Af.dD a5 a7;obtain ⟨Y,t2,t3⟩:=Af.ND d1
  by_cases h0:d1.left=0
  ·rw [if_pos h0] at O
   right
   refine ⟨?_,_, .inr ⟨d1,J,O⟩,rfl,m,Nat.le_refl _,r,E⟩
   by_cases hn:d.left<0
   ·have:=(U hn).2;omega
   ·omega
  ·rw [if_neg h0] at O
   left
   have F:∀ x ∈ d1.row,x.1<d1.pages.length/\x.2.length=512:=by
    rw [E,r];intro x F;simp only [List.mem_map,List.mem_range] at F;obtain ⟨t,ht,rfl⟩:=F;exact ⟨by show l.first+l.end'+t<_;omega,AA.ES (CX _ _)⟩
   have hq:∀ p ∈ d1.pages,p.length=512:=by rw [r];exact u.2.2.1
   have a6:=Af.Jq (fun _=>512) (by simp) d1.pages hq d1.row F;have a2:(d1.tick.done fun _=>512).pages.length=d.pages.length:=by
    show (Af.Dk _ d1.tick.pages d1.tick.row).length=_;rw [Y,t2,a6.1,r]
   have a3 : -1<=d1.tick.left/\d1.tick.left<=9223372036854775807/\(d.left<0->d1.tick.left=d.left):=by
    have h5:=u.2.2.2.2;obtain ⟨u1,u2⟩:=Af.Rl d1
    by_cases hn:d.left<0
    ·have:=(U hn).2;have:=u1 om;refine ⟨om,om,fun _=>om⟩
    ·have:=q7 om;have:=u2 om;refine ⟨om,om,fun h=>om⟩
   refine ⟨d1,_,J,O,t3.trans a5,rfl, ?_,a2,a3.2.2,fun j => ?_⟩
   ·refine ⟨by rw [a2];exact u.1,by rw [a2];exact u.2.1, ?_,(by intro x F;cases F),a3.1,a3.2.1⟩;show ∀ p ∈ Af.Dk _ d1.tick.pages d1.tick.row,_;rw [Y,t2];exact a6.2
   ·show (Af.Dk (fun _=>512) d1.tick.pages d1.tick.row).getD j []=_;rw [Y,t2,r,E,Af.Lh _ _ _ _ _ om];have a8:d.seen j=d.pages.getD j []:=by unfold Af.seen;rw [a4];rfl
    rw [a8];split
    ·rename_i hj;unfold Af.CG;rw [List.take_of_length_le (by rw [AA.ES (CX _ _)];omega),List.drop_eq_nil_of_le (by rw [Af.OX u.2.2.1 om];omega),List.append_nil]
    ·rfl
 ·rw [if_neg W] at J
  right
  refine ⟨?_,d1, .inl J, ?_,m,q1,r,E⟩
  ·by_cases hn:d.left<0
   ·exact (W (U hn).1).elim
   ·omega
  ·rw [q5];simp;omega
theorem Ur {d q:Af}(u:d.wf) (O:d.row=[]) (hp:q.pages=d.pages) (base m:Nat) (g:Nat->List UInt8) (U:∀ t,(g t).length=512) (F:q.row=(List.range m).map fun t=>(base+t,g t)) (W:base+m<=d.pages.length) (Bz:List Int) :
  (q.BJ Bz).dead=false/\(q.BJ Bz).row=[]/\(q.BJ Bz).wf/\(q.BJ Bz).left = -1/\(q.BJ Bz).pages.length=d.pages.length /\
   ∀ j,(q.BJ Bz).seen j=if base<=j/\j<base+m then Af.CG (Af.Xm Bz (j - base)) (g (j - base)) (d.seen j) else d.seen j:=by
 have r:∀ x ∈ q.row,x.1<q.pages.length/\x.2.length=512:=by
  rw [F,hp];intro x r;simp only [List.mem_map,List.mem_range] at r;obtain ⟨t,ht,rfl⟩:=r;exact ⟨by show base+t<_;omega,U _⟩
 have J:=Af.Jq (Af.Xm Bz) (Af.eG Bz) q.pages (by rw [hp];exact u.2.2.1) q.row r;have E:(q.BJ Bz).pages.length=d.pages.length:=by
  show (Af.Dk _ q.pages q.row).length=_;rw [J.1,hp]
 refine ⟨rfl,rfl,⟨by rw [E];exact u.1,by rw [E];exact u.2.1,J.2,(by intro x r;cases r),by show (-1:Int) <= -1;omega,by show (-1:Int)<=_;omega⟩,rfl,E,fun j => ?_⟩;show (Af.Dk _ q.pages q.row).getD j []=_;rw [hp,F,Af.Lh _ _ _ _ _ W];have Y:d.seen j=d.pages.getD j []:=by unfold Af.seen;rw [O];rfl
 rw [Y]
structure Back (K f n:Nat) (d d2:Af) (R R':List (List UInt8)):Prop where
 good:Good K (AY f (Aw d2 f n),d2)
 left:d2.left = -1
 Us:Oth f n d d2
 recs:(AY f (Aw d2 f n)).records=R \/ (AY f (Aw d2 f n)).records=R'
theorem JM (f n:Nat) (d:Af):(AY f (Aw d f n)).n=n:=Bq d f n
theorem RN {K f n:Nat}{d2:Af}(q:d2.dead=false) (r:d2.row=[]) (u:d2.wf) (h4:f+n<=d2.pages.length) (E:2<=n) (F:∀ j,j<n->DZ K (d2.seen (f+j))):Good K (AY f (Aw d2 f n),d2):=by
 refine ⟨q,r,⟨?_, ?_, ?_,u⟩, ?_⟩
 ·show AY f (Aw d2 f n)=AY f (Aw d2 f (AY f (Aw d2 f n)).n);rw [JM]
 ·show f+(AY f (Aw d2 f n)).n<=_;rw [JM];exact h4
 ·show 2<=(AY f (Aw d2 f n)).n;rw [JM];exact E
 ·show ∀ j,j<(AY f (Aw d2 f n)).n->_;rw [JM];exact F
theorem Tm {f:Nat}{pages Aat:List (List UInt8)}{S:BitVec 64}{b:List UInt8}(F:(AY f pages).Dx=true) (J:(Ad.newest pages).toNat<S.toNat) (O:many b<65536)
  (u:∀ j,(j<(AY f pages).end' \/ (AY f pages).end'+many b<=j)->Aat[j]?=pages[j]?)
  (E:∀ i,i<many b->∃ q,Aat[(AY f pages).end'+i]?=some q/\(pages[(AY f pages).end'+i]?=some q \/ q=AA.page ⟨S,i,many b,part b i⟩ \/ (CE q).2=false)) :
  (AY f Aat).records=(AY f pages).records \/ (AY f Aat).records=(AY f pages).records++[b]:=by
 have r:Di (Ah pages)=true:=F;have U:(AY f pages).end'=(readAll (Ah pages)).1:=by show (if Di (Ah pages) then _ else _)=_;rw [if_pos r]
 have W:(AY f pages).records=(readAll (Ah pages)).2.2:=by show (if Di (Ah pages) then _ else _)=_;rw [if_pos r]
 rw [U] at u E;obtain ⟨a,c⟩:=Oj r J O u E;have Y:(AY f Aat).records=(readAll (Ah Aat)).2.2:=by show (if Di (Ah Aat) then _ else _)=_;rw [if_pos a]
 rw [W,Y]
 rcases c with ⟨c, -⟩ | ⟨-,c⟩
 ·left;rw [c]
 ·right;rw [c]
theorem MK {f:Nat}{pages Aat:List (List UInt8)}{S:BitVec 64}(q:(Ad.newest pages).toNat<S.toNat) (r:∀ j,1<=j->Aat[j]?=pages[j]?)
  (u:Aat[0]?=pages[0]? \/ Aat[0]?=some (AA.page ⟨S,0,0,[]⟩) \/ ∃ p,Aat[0]?=some p/\(CE p).2=false) :
  (AY f Aat).records=(AY f pages).records \/ (AY f Aat).records=[]:=by
 obtain ⟨a,c⟩:=MB q r u
 by_cases h:Aat[0]?=some (AA.page ⟨S,0,0,[]⟩)
 ·right
  obtain ⟨a1,E⟩:=a h;show (if Di (Ah Aat) then (readAll (Ah Aat)).2.2 else [])=[]
  rw [if_pos a1,E]
 ·rcases c h with c | c
  ·left
   show (if Di (Ah Aat) then (readAll (Ah Aat)).2.2 else [])=(if Di (Ah pages) then (readAll (Ah pages)).2.2 else [])
   rw [c]
  ·right
   show (if Di (Ah Aat) then (readAll (Ah Aat)).2.2 else [])=[]
   rw [c];rfl
theorem MG (i:Nat):part [] i=[]:=by simp [part]
theorem seen_none {d:Af}{f n j:Nat}(q:n<=j):(Aw d f n)[j]?=none:=List.getElem?_eq_none (by rw [Bq];exact q)
def Ht (l:Ad):Ad:={ l with stamp:=l.stamp+1#64,Dx:=true,records:=[],end':=1 }
theorem Qa {K:Nat}{s:Ad × Af}(h:Good K s) (hK:K+1<65536) :
  (∃ q,head s=(({ s.1 with stamp:=s.1.stamp+1#64 },q),0)/\Good (K+1) (Ht s.1,q)/\Oth s.1.first s.1.n s.2 q/\(s.2.left<0->q.left=s.2.left)) \/
  (0<=s.2.left/\∃ q,head s=(({ s.1 with stamp:=s.1.stamp+1#64 },q),9)/\q.dead=true/\q.row.length<=4096/\∀ Bz,Back (K+256) s.1.first s.1.n s.2 (q.BJ Bz) s.1.records []):=by
 have b5:=h.fine.2.1;have a2:=h.fine.2.2.1;have hw:=h.fine.2.2.2;have b6:=h.JK;have U:=h.next om;obtain ⟨S,J⟩:=az (s.1.stamp+1#64);have a3:∀ d,put { s.1 with stamp:=S,end':=0 } 0 [] 1 0 d=(let r:=d.write s.1.first (AA.page ⟨S,0,0,[]⟩);if r.2 ≠ 0 then r else (r.1,0)):=fun d=>by
  show (let r:=d.write ((s.1.first+0+0:Nat):Int) (AA.page ⟨S,0,0,part [] 0⟩);if r.2 ≠ 0 then r else put _ _ _ 0 _ r.1)=_
  rw [MG];rfl
 have a4:(Ad.newest (Aw s.2 s.1.first s.1.n)).toNat<S.toNat:=by rw [h.newest, <-J,U];omega
 have a5:head s=(let r:=s.2.write (s.1.first:Int) (AA.page ⟨S,0,0,[]⟩);if r.2 ≠ 0 then (({ s.1 with stamp:=S },r.1),r.2) else (({ s.1 with stamp:=S },r.1.sync.1),r.1.sync.2)):=by
  unfold head;rw [J]
 rcases UT h.dd hw h.row { s.1 with stamp:=S,end':=0 } 0 [] 1 (by show s.1.first+0+1<=_;omega) with ⟨d1,q,u,q2,q3,q4,q5,q6,q7,q8⟩ | ⟨q0,q,u,q2,m,q3,q4,q5⟩
 ·left
  change ∀ j,q.seen j=if s.1.first+0<=j/\j<s.1.first+0+1 then AA.page ⟨S,_,0,part [] _⟩ else _ at q8
  have b1:Aw q s.1.first s.1.n=Eh (Aw s.2 s.1.first s.1.n) S:=by
   refine Gx (by rw [IP,Bq]) fun j E => ?_;rw [q8,Eh]
   by_cases h0:j=0
   ·subst h0;rw [List.getElem?_set_self (by rw [Bq];omega),if_pos om,MG];simp
   ·rw [List.getElem?_set_ne om,if_neg om,Cc _ _ _ _ E]
  have a6:=Tn (f:=s.1.first) (S:=S) a4 (by rw [Bq];omega)
  rw [Bq, <-b1] at a6;refine ⟨q, ?_,⟨q3,q4,⟨?_,by show s.1.first+s.1.n<=q.pages.length;omega,a2,q5⟩, ?_⟩,⟨q6,fun j E => ?_⟩,q7⟩
  ·rw [a3] at u;rw [a5,J]
   revert u
   generalize s.2.write (s.1.first:Int) (AA.page ⟨S,0,0,[]⟩)=r
   intro u
   by_cases F:r.2=0
   ·simp only [F,ne_eq,not_true_eq_false,if_false,Prod.mk.injEq,and_true] at u;simp only [F,ne_eq,not_true_eq_false,if_false,u,q2]
   ·simp only [ne_eq,F,not_false_eq_true,if_true] at u;rw [u] at F;exact (F rfl).elim
  ·show Ht s.1=AY s.1.first (Aw q s.1.first s.1.n)
   rw [a6,Ht,J,h.ld]
  ·intro j E
   change j<s.1.n at E
   show DZ _ (q.seen (s.1.first+j))
   rw [q8];split
   ·exact JW (by rw [MG];simp) (by show S.toNat<=_;rw [<-J,U];omega)
   ·exact (h.pg j E).mono om
  ·rw [q8,if_neg om]
 ·right
  have b2:q.row.length<=4096:=by rw [q5];simp only [List.length_map,List.length_range];have:=hw.2.1;omega
  refine ⟨q0,q, ?_,q2,b2,fun Bz => ?_⟩
  ·rw [a5,J];simp only [a3] at u
   revert u
   generalize s.2.write (s.1.first:Int) (AA.page ⟨S,0,0,[]⟩)=r
   intro u
   by_cases F:r.2=0
   ·simp only [F,ne_eq,not_true_eq_false,if_false,Prod.mk.injEq,and_true] at u
    rcases u with ⟨-,u⟩ | ⟨d1,u,b3⟩
    ·cases u
    ·simp only [F,ne_eq,not_true_eq_false,if_false,u,b3]
   ·simp only [ne_eq,F,not_false_eq_true,if_true] at u
    rcases u with u | ⟨d1,u, -⟩
    ·rw [u];simp
    ·rw [u] at F;exact (F rfl).elim
  ·obtain ⟨t1,t2,t3,t4,t5,W⟩:=Ur hw h.row q4 (s.1.first+0) m _ (fun t=>AA.ES (CX _ _)) q5 om Bz
   simp only [MG] at W;have a7:∀ j,j<s.1.n->((q.BJ Bz).seen (s.1.first+j)=s.2.seen (s.1.first+j) \/ j=0/\((q.BJ Bz).seen s.1.first=AA.page ⟨S,0,0,[]⟩ \/ (CE ((q.BJ Bz).seen s.1.first)).2=false))/\DZ (K+256) ((q.BJ Bz).seen (s.1.first+j)):=by
    intro j E;rw [W (s.1.first+j)]
    split
    ·rename_i hc;obtain rfl:j=0:=om
     have b7:0<m:=om
     have ht:=Rj (K:=s.1.stamp.toNat) ⟨S,0,0,[]⟩ (by simp) (by show _<S.toNat;rw [<-J,U];omega) (by show S.toNat<_;rw [<-J,U];omega) (h.page E) (Af.Xm Bz 0);have e0:=W s.1.first
     rw [if_pos om] at e0;simp only [Nat.add_zero,Nat.sub_self] at e0 ht ⊢;rw [e0];obtain ⟨O,b4⟩:=ht;refine ⟨?_,b4.mono (by show S.toNat+255<=_;rw [<-J,U];omega)⟩
     rcases O with O | O | O
     ·exact .inl O
     ·exact .inr ⟨trivial, .inl O⟩
     ·exact .inr ⟨trivial, .inr O⟩
    ·exact ⟨.inl rfl,(h.pg j E).mono om⟩
   refine ⟨RN t1 t2 t3 om a2 (fun j E=>(a7 j E).2),t4,⟨t5,fun j E=>by rw [W,if_neg om]⟩, ?_⟩;have a8:=MK (f:=s.1.first) (pages:=Aw s.2 s.1.first s.1.n) (Aat:=Aw (q.BJ Bz) s.1.first s.1.n) (S:=S) a4
    (fun j E=>by
     by_cases a9:j<s.1.n
     ·rw [Cc _ _ _ _ a9,Cc _ _ _ _ a9,W,if_neg om]
     ·rw [seen_none om,seen_none om])
    (by
     rw [Cc _ _ _ _ om,Cc _ _ _ _ om]
     rcases (a7 0 om).1 with Y | ⟨-,Y | Y⟩
     ·exact .inl (by rw [Y])
     ·exact .inr (.inl (by rw [Nat.add_zero,Y]))
     ·exact .inr (.inr ⟨_,by rw [Nat.add_zero],Y⟩))
   rw [<-h.fine.1] at a8;exact a8
def JQ (l:Ad) (b:List UInt8):Ad:={ l with stamp:=l.stamp+1#64,records:=l.records++[b],end':=l.end'+many b }
theorem Ut {K:Nat}{s:Ad × Af}(h:Good K s) (hh:s.1.Dx=true) (hK:K+1<65536) (b:List UInt8) (hm:many b<=s.1.n - s.1.end') :
  (∃ q,step3 b s=(({ s.1 with stamp:=s.1.stamp+1#64 },q),0)/\Good (K+1) (JQ s.1 b,q)/\Oth s.1.first s.1.n s.2 q/\(s.2.left<0->q.left=s.2.left)) \/
  (0<=s.2.left/\∃ q,step3 b s=(({ s.1 with stamp:=s.1.stamp+1#64 },q),9)/\q.dead=true/\q.row.length<=4096/\∀ Bz,Back (K+256) s.1.first s.1.n s.2 (q.BJ Bz) s.1.records (s.1.records++[b])):=by
 have b5:=h.fine.2.1;have a2:=h.fine.2.2.1;have U:=h.fine.2.2.2;have b6:=h.JK;have J:=h.next om;have b7:=h.ends;have b8:=Ko b;have b9:=U.2.1;obtain ⟨S,u⟩:=az (s.1.stamp+1#64);have a3:(Ad.newest (Aw s.2 s.1.first s.1.n)).toNat<S.toNat:=by rw [h.newest, <-u,J];omega
 have a4:(AY s.1.first (Aw s.2 s.1.first s.1.n)).Dx=true:=by rw [<-h.fine.1];exact hh
 have W:(AY s.1.first (Aw s.2 s.1.first s.1.n)).end'=s.1.end':=by rw [<-h.fine.1]
 have a5:(AY s.1.first (Aw s.2 s.1.first s.1.n)).records=s.1.records:=by rw [<-h.fine.1]
 rcases UT h.dd U h.row { s.1 with stamp:=S } (many b) b (many b) (by show s.1.first+s.1.end'+many b<=_;omega) with ⟨d1,q,E,q2,q3,q4,q5,q6,q7,q8⟩ | ⟨q0,q,E,q2,m,q3,q4,q5⟩
 ·left
  change ∀ j,q.seen j=if s.1.first+s.1.end'<=j/\j<s.1.first+s.1.end'+many b then AA.page ⟨S,j - (s.1.first+s.1.end'),many b,part b _⟩ else _ at q8
  have b1:Aw q s.1.first s.1.n=Fp (Aw s.2 s.1.first s.1.n) s.1.end' S b:=by
   refine Gx (by rw [JD,Bq]) fun j r => ?_;rw [q8,FZ,Bq,if_pos r]
   by_cases hc:s.1.end'<=j/\j<s.1.end'+many b
   ·rw [if_pos hc,if_pos om,show s.1.first+j - (s.1.first+s.1.end')=j - s.1.end' from by omega]
   ·rw [if_neg hc,if_neg om,Cc _ _ _ _ r]
  have a6:=Vd (f:=s.1.first) (S:=S) (b:=b) a4 a3 om (by rw [W,Bq];omega)
  rw [W,a5,Bq, <-b1] at a6;refine ⟨q, ?_,⟨q3,q4,⟨?_,by show s.1.first+s.1.n<=q.pages.length;omega,a2,q5⟩, ?_⟩,⟨q6,fun j r => ?_⟩,q7⟩
  ·unfold step3;rw [u];simp only [E,ne_eq,not_true_eq_false,if_false,q2]
  ·show JQ s.1 b=AY s.1.first (Aw q s.1.first s.1.n)
   rw [a6,JQ,u,h.ld,hh]
  ·intro j r
   change j<s.1.n at r
   show DZ _ (q.seen (s.1.first+j))
   rw [q8];split
   ·exact JW (CX _ _) (by show S.toNat<=_;rw [<-u,J];omega)
   ·exact (h.pg j r).mono om
  ·rw [q8,if_neg om]
 ·right
  have b2:q.row.length<=4096:=by rw [q5];simp only [List.length_map,List.length_range];have:=U.2.1;omega
  refine ⟨q0,q, ?_,q2,b2,fun Bz => ?_⟩
  ·unfold step3;rw [u]
   rcases E with E | ⟨d1,E,b3⟩
   ·simp only [E];simp
   ·simp only [E,ne_eq,not_true_eq_false,if_false,b3]
  ·obtain ⟨t1,t2,t3,t4,t5,Y⟩:=Ur U h.row q4 (s.1.first+s.1.end') m _ (fun t=>AA.ES (CX _ _)) q5 om Bz
   have a7:∀ j,j<s.1.n->((q.BJ Bz).seen (s.1.first+j)=s.2.seen (s.1.first+j) \/ (s.1.end'<=j/\j<s.1.end'+many b)/\((q.BJ Bz).seen (s.1.first+j)=AA.page ⟨S,j - s.1.end',many b,part b (j - s.1.end')⟩ \/ (CE ((q.BJ Bz).seen (s.1.first+j))).2=false))/\DZ (K+256) ((q.BJ Bz).seen (s.1.first+j)):=by
    intro j r;rw [Y (s.1.first+j)]
    split
    ·rename_i hc;rw [show s.1.first+j - (s.1.first+s.1.end')=j - s.1.end' from by omega]
     have ht:=Rj (K:=s.1.stamp.toNat) ⟨S,j - s.1.end',many b,part b (j - s.1.end')⟩ (CX _ _) (by show _<S.toNat;rw [<-u,J];omega) (by show S.toNat<_;rw [<-u,J];omega) (h.page r) (Af.Xm Bz (j - s.1.end'));obtain ⟨F,b4⟩:=ht;refine ⟨?_,b4.mono (by show S.toNat+255<=_;rw [<-u,J];omega)⟩
     rcases F with F | F | F
     ·exact .inl F
     ·exact .inr ⟨om, .inl F⟩
     ·exact .inr ⟨om, .inr F⟩
    ·exact ⟨.inl rfl,(h.pg j r).mono om⟩
   refine ⟨RN t1 t2 t3 om a2 (fun j r=>(a7 j r).2),t4,⟨t5,fun j r=>by rw [Y,if_neg om]⟩, ?_⟩;have a8:=Tm (f:=s.1.first) (pages:=Aw s.2 s.1.first s.1.n) (Aat:=Aw (q.BJ Bz) s.1.first s.1.n) (S:=S) (b:=b) a4 a3 om
    (fun j r=>by
     rw [W] at r
     by_cases a9:j<s.1.n
     ·rw [Cc _ _ _ _ a9,Cc _ _ _ _ a9,Y,if_neg om]
     ·rw [seen_none om,seen_none om])
    (fun i hi=>by
     rw [W,Cc _ _ _ _ om,Cc _ _ _ _ om];refine ⟨_,rfl, ?_⟩
     rcases (a7 (s.1.end'+i) om).1 with O | ⟨-,O | O⟩
     ·exact .inl (by rw [O])
     ·exact .inr (.inl (by rw [O,Nat.add_sub_cancel_left]))
     ·exact .inr (.inr O))
   rw [a5] at a8;exact a8
theorem Nk {K:Nat}{s:Ad × Af}(h:Good K s) (hK:K+2<65536) (b:List UInt8) :
  (s.1.n - s.1.end'<many b/\Ag b s=(s,4)) \/
  (many b<=s.1.n - s.1.end'/\∃ q,Ag b s=(q,0)/\Good (K+2) q/\q.1.records=s.1.records++[b]/\q.1.end'=s.1.end'+many b/\q.1.n=s.1.n/\q.1.first=s.1.first/\Oth s.1.first s.1.n s.2 q.2/\(s.2.left<0->q.2.left=s.2.left)) \/
  (0<=s.2.left/\∃ q,Ag b s=(q,9)/\q.1.dead=true/\q.2.dead=true/\q.2.row.length<=4096/\q.1.n=s.1.n/\q.1.first=s.1.first/\∀ Bz,Back (K+257) s.1.first s.1.n s.2 (q.2.BJ Bz) s.1.records (s.1.records++[b])):=by
 by_cases Y:s.1.n - s.1.end'<many b
 ·exact .inl ⟨Y,AkD h.ld h.dd b Y⟩
 right
 have a3:step1 b s=(s,0):=by unfold step1;rw [if_neg Y]
 have a4:Ag b s=steps [step2,step3 b,step4 b] s:=by
  unfold Ag alive;rw [h.ld,h.dd];simp only [Bool.or_self,Bool.false_eq_true,if_false];rw [steps,a3];simp
 rw [a4];have h2:(∃ r,step2 s=(r,0)/\Good (K+1) r/\r.1.Dx=true/\r.1.records=s.1.records/\r.1.end'=s.1.end'/\r.1.n=s.1.n/\r.1.first=s.1.first/\Oth s.1.first s.1.n s.2 r.2/\(s.2.left<0->r.2.left=s.2.left)) \/
   (0<=s.2.left/\∃ q,step2 s=(q,9)/\q.2.dead=true/\q.2.row.length<=4096/\q.1.n=s.1.n/\q.1.first=s.1.first/\∀ Bz,Back (K+256) s.1.first s.1.n s.2 (q.2.BJ Bz) s.1.records s.1.records):=by
  unfold step2
  cases hh:s.1.Dx with
  | true =>
   left
   refine ⟨s,by simp,⟨h.dd,h.row,h.fine,fun j hj=>(h.pg j hj).mono om⟩,hh,rfl,rfl,rfl,rfl,Oth.refl _ _ _,fun _=>rfl⟩
  | false =>
   have U:s.1.records=[]/\s.1.end'=1:=by
    have a2:Di (Ah (Aw s.2 s.1.first s.1.n))=false:=by
     have:=congrArg Ad.Dx h.fine.1;rw [hh] at this;exact this.symm
    rw [h.fine.1];refine ⟨?_, ?_⟩
    ·show (if Di _ then _ else _)=_;rw [a2];rfl
    ·show (if Di _ then _ else _)=_;rw [a2];rfl
   rcases Qa h om with ⟨E,F,J,u,q4⟩ | ⟨W,E,F,J,qr,u⟩
   ·left
    refine ⟨(Ht s.1,E), ?_,J,rfl,U.1.symm,U.2.symm,rfl,rfl,u,q4⟩;simp only [Bool.false_eq_true,if_false,F,beq_self_eq_true];rw [Ht, <-U.1, <-U.2]
   ·right
    refine ⟨W,({ s.1 with stamp:=s.1.stamp+1#64,Dx:=false },E),by simp only [Bool.false_eq_true,if_false,F];rfl,J,qr,rfl,rfl,fun Bz => ?_⟩;have:=u Bz;rw [U.1] at this ⊢;exact this
 rcases h2 with ⟨r,e2,g2,a5,r2,d2,n2,O,o2,l2⟩ | ⟨W,q,e2,g2,a6,n2,O,b2⟩
 ·rw [steps,e2];simp only [ne_eq,not_true_eq_false,if_false]
  rcases Ut g2 a5 om b (by rw [n2,d2];omega) with ⟨E,F,J,u,q4⟩ | ⟨W,E,F,J,a7,u⟩
  ·left
   refine ⟨om,(JQ r.1 b,E), ?_,J, ?_, ?_,n2,O, ?_,fun hl => ?_⟩
   ·rw [steps,F];simp [steps,step4,JQ]
   ·show r.1.records++[b]=_;rw [r2]
   ·show r.1.end'+many b=_;rw [d2]
   ·rw [n2,O] at u;exact o2.trans u
   ·exact (q4 (by rw [l2 hl];exact hl)).trans (l2 hl)
  ·right
   refine ⟨?_,({ r.1 with stamp:=r.1.stamp+1#64,dead:=true },E), ?_,rfl,J,a7,n2,O,fun Bz => ?_⟩
   ·by_cases hl:s.2.left<0
    ·rw [l2 hl] at W;omega
    ·omega
   ·rw [steps,F];simp
   ·have:=u Bz;rw [n2,O,r2] at this;exact ⟨this.good,this.left,o2.trans this.Us,this.recs⟩
 ·right
  refine ⟨W,({ q.1 with dead:=true },q.2), ?_,rfl,g2,a6,n2,O,fun Bz => ?_⟩
  ·rw [steps,e2];simp
  ·have:=b2 Bz;refine ⟨⟨this.good.dd,this.good.row,this.good.fine,fun j hj=>(this.good.pg j hj).mono om⟩,this.left,this.Us, ?_⟩
   rcases this.recs with hx | hx <;> exact .inl hx
theorem UL {K:Nat}{s:Ad × Af}(h:Good K s) (J:K+1<65536) :
  (∃ q,reset s=(q,0)/\Good (K+1) q/\q.1.records=[]/\q.1.end'=1/\q.1.n=s.1.n/\q.1.first=s.1.first/\Oth s.1.first s.1.n s.2 q.2/\(s.2.left<0->q.2.left=s.2.left)) \/
  (0<=s.2.left/\∃ q,reset s=(q,9)/\q.1.dead=true/\q.2.dead=true/\q.2.row.length<=4096/\q.1.n=s.1.n/\q.1.first=s.1.first/\∀ Bz,Back (K+256) s.1.first s.1.n s.2 (q.2.BJ Bz) s.1.records []):=by
 unfold reset alive;rw [h.ld,h.dd];simp only [Bool.or_self,Bool.false_eq_true,if_false]
 rcases Qa h J with ⟨r,u,E,F,O⟩ | ⟨U,r,u,E,W,F⟩
 ·left
  refine ⟨(Ht s.1,r), ?_,E,rfl,rfl,rfl,rfl,F,O⟩;rw [steps,u];simp [steps,Hr,Ht]
 ·right
  refine ⟨U,({ s.1 with stamp:=s.1.stamp+1#64,dead:=true },r), ?_,rfl,E,W,rfl,rfl,F⟩;rw [steps,u];simp
theorem Good.Us {K f n:Nat}{s:Ad × Af}{q:Af}(h:Good K s) (u:Oth f n s.2 q) (F:q.dead=false) (J:q.row=[]) (O:q.wf) (U:s.1.first+s.1.n<=f \/ f+n<=s.1.first):Good K (s.1,q):=by
 have E:∀ j,j<s.1.n->q.seen (s.1.first+j)=s.2.seen (s.1.first+j):=fun j r=>u.2 _ om
 refine ⟨F,J,⟨?_,by show _<=q.pages.length;rw [u.1];exact h.fine.2.1,h.fine.2.2.1,O⟩,fun j r => ?_⟩
 ·show s.1=AY s.1.first (Aw q s.1.first s.1.n)
  have:Aw q s.1.first s.1.n=Aw s.2 s.1.first s.1.n:=Gx (Bq _ _ _) fun j r=>by rw [Cc _ _ _ _ r,E j r]
  rw [this];exact h.fine.1
 ·show DZ K (q.seen (s.1.first+j))
  rw [E j r];exact h.pg j r
end Ad

end Go.Proofs.YtffkdillijmamaaGreat
