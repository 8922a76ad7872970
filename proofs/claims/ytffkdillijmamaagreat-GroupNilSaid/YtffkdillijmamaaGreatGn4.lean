/- Laws on rows: bytes appended to a row, a record appended to a log's records. -/
import Derived.Lib.SlBytesConst
import Derived.Test.YtffkdillijmamaaGreatGn1
import Derived.Test.YtffkdillijmamaaGreatGn3
namespace Go.Proofs.YtffkdillijmamaaGreat
open Go.Proofs.Tryz
set_option maxRecDepth 100000
set_option maxHeartbeats 6400000
open Go Go.RowKit
theorem Qu (W:World) {base:Nat} (hbase:base ≤ W.heap.size) {v:Value} {n:Nat} {xs:List UInt8} (hown:W.ownsRow base 5 1 v n (bvs xs)) {o:Own} {yv:Value} {l:List UInt8} (hy:Bytes W o yv l) (h63:n+l.length ≤ 1000000000) :
  ∃ v' w',(Builtin.append_ #[29,29] 29 #[v,yv]).run prog W = .ok v' w'∧w'.ownsRow base 5 1 v' (n+l.length) (bvs (xs++l))∧W.grownBy w' v.ownBlock:=by
 have hself:W.grownBy W v.ownBlock:=⟨rfl,rfl,rfl,Nat.le_refl _,fun _ _ _=>rfl⟩
 obtain ⟨va,vc,rfl⟩:=BA hown
 have hcap:n ≤ vc:=by
  rcases hown.2 with ⟨h1,h2⟩ | ⟨g,cap,cur,h1,_,_,h2,h3,_⟩
  ·simp only [Value.slice.injEq] at h1;omega
  ·simp only [Value.slice.injEq] at h1;omega
 rcases hy.cases with ⟨⟨a,c,rfl⟩,rfl⟩ | ⟨b,off,cap,rfl,hc,hm,ho,hb,hr⟩
 ·exact ⟨_,W,CB (P:=prog) W 29 29 5 1 underlying29 (by kernel_rfl) va a n vc c hcap (by omega),by simpa using hown,hself⟩
 ·by_cases h0:l.length=0
  ·have hl:l=[]:=List.eq_nil_of_length_eq_zero h0
   subst hl
   exact ⟨_,W,CB (P:=prog) W 29 29 5 1 underlying29 (by kernel_rfl) va (some ⟨b,off,none⟩) n vc cap hcap (by omega),by simpa using hown,hself⟩
  ·obtain ⟨g,cap',w',h1,h2,h3,_⟩:=Es W hbase _ n xs hown b off l.length cap l rfl hr (by omega) h63
   exact ⟨_,w',h1,h2,h3⟩
theorem BZ.append {W:World} {o:Own} {L p pd:Nat} {m:Ad} (hl:BZ W o L p pd m) (hL:L ≠ 0) {nb:Nat} {x:Value} {r:List UInt8} (hnb:W.heap[nb]?=some (.cells #[x] 29 (0,0))) (hx:Bytes W o x r) (hxm:Mine W o x) (k:Nat) (hwf:({ m with records:=m.records++[r],end':=k }:Ad).wf) :
  ∃ rv v' w3 o3,W.cell? ⟨p,6,none⟩=some rv∧(∃ a c,rv = .slice a m.records.length c)∧(Builtin.append_ #[181,181] 181 #[rv, .slice (some ⟨nb,0,none⟩) 1 1]).run prog W = .ok v' w3∧(∃ a c,v' = .slice a (m.records.length+1) c) ∧
   Step (Only L) W o w3 o3∧w3.heap[p]?=W.heap[p]?∧Step (Only L) W o ((w3.setCell ⟨p,6,none⟩ v').setCell ⟨p,5,none⟩ (.int .i64 (k:Int))) o3 ∧
   BZ ((w3.setCell ⟨p,6,none⟩ v').setCell ⟨p,5,none⟩ (.int .i64 (k:Int))) o3 L p pd { m with records:=m.records++[r],end':=k }:=by
 have hw:=hl.wf
 have hN0:¬ Only L 0:=fun h=>hL h.symm
 obtain ⟨rv,vs,hp,hro,hv,op,wI, -⟩:=hl
 have hc6:W.cell? ⟨p,6,none⟩=some rv:=cell_of_block hp 6
 obtain ⟨xa,xc,rfl⟩:=Aq hx
 obtain ⟨_,g2,g3,_,g5,g6,_⟩:=hw
 obtain ⟨g,cap,w3,hrun,hown3,hgrow,hat,hlt3⟩:=FU W (Nat.zero_le _) _ _ _ hro nb _ rfl (AV (cs:=[.slice xa r.length xc]) hnb) (by omega)
 have wS:=lt_of_block hp
 have hgt:o g=(L,1) ∨ W.heap.size ≤ g:=by
  rcases hat with hat | hat
  ·exact .inl (wI g hat)
  ·exact .inr (by omega)
 have hs3:Step (Only L) W o w3 (Ak o g (L,1)):=(Step.refl (Only L) W o).grown hgrow (fun k hk => .inl (by rw [wI k hk];rfl)) g (L,1) hgt
 have xX:p ≠ g:=by
  rintro rfl
  rcases hgt with h1 | h1
  ·rw [op] at h1;simp at h1
  ·omega
 have hp3:w3.heap[p]?=W.heap[p]?:=hgrow.block p wS (by intro hx;have:=wI p hx.symm;rw [op] at this;simp at this)
 have yK:=(hv.snoc hx hxm).step hs3 hN0
 have op3:Ak o g (L,1) p=(L,0):=by rw [BI _ _ xX];exact op
 have vF:Step (Only L) w3 (Ak o g (L,1)) ((w3.setCell ⟨p,6,none⟩ (.slice (some ⟨g,0,none⟩) (m.records.length+1) cap)).setCell ⟨p,5,none⟩ (.int .i64 (k:Int))) (Ak o g (L,1)):=
  ((Step.refl (Only L) w3 (Ak o g (L,1))).setCell (a:=⟨p,6,none⟩) _ (.inl (by show (Ak o g (L,1) p).1=L;rw [op3]))).setCell (a:=⟨p,5,none⟩) _ (.inl (by show (Ak o g (L,1) p).1=L;rw [op3]))
 refine ⟨rv,_,w3,Ak o g (L,1),hc6,BA hro,hrun,⟨_,_,rfl⟩,hs3,hp3,hs3.trans vF, ?_⟩
 refine ⟨.slice (some ⟨g,0,none⟩) (m.records.length+1) cap,vs++[.slice xa r.length xc], ?_, ?_,yK.step vF hN0,op3, ?_,hwf⟩
 ·have:=Ai (i:=5) (.int .i64 (k:Int)) (Ai (i:=6) (.slice (some ⟨g,0,none⟩) (m.records.length+1) cap) (hp3.trans hp))
  exact this
 ·have:(m.records++[r]).length=m.records.length+1:=by simp
  show World.ownsRow _ 0 29 1 _ (m.records++[r]).length _
  rw [this]
  refine Ci hown3 fun k hk => ?_
  simp only [Value.ownBlock,Option.some.injEq] at hk
  subst hk
  rw [Below.heap_setCell _ _ _ _ (Ne.symm xX),Below.heap_setCell _ _ _ _ (Ne.symm xX)]
 ·intro k hk
  simp only [Value.ownBlock,Option.some.injEq] at hk
  subst hk;exact Au _ _ _
attribute [local go_sem ↓] Go.wp_at_zero Go.wp_at_succ
def Qy (w:World) (o:Own) (v:Value) (ls:List AA):Prop:=∃ b off cap bvs,v = .slice (some ⟨b,off,none⟩) ls.length cap∧ls.length ≤ cap∧cap ≤ maxLen∧(o b).1=0∧b<w.heap.size∧Ey w o bvs (ls.map AA.bytes) ∧
 ∀ (i:Nat) x bv,ls[i]?=some x→bvs[i]?=some bv→w.rangeAt b (off+i*4) (BQ x bv)
theorem Qy.step {T:Nat→Prop} {w w':World} {o o':Own} {v:Value} {ls:List AA} (h:Qy w o v ls) (s:Step T w o w' o') (hT:¬ T 0):Qy w' o' v ls:=by
 obtain ⟨b,off,cap,bvs,hv,h1,h2,h3,h4,h5,h6⟩:=h
 exact ⟨b,off,cap,bvs,hv,h1,h2,by rw [s.own b h4];exact h3,Nat.lt_of_lt_of_le h4 s.size,h5.step s hT,fun i x bv hx hb=>Cf (h6 i x bv hx hb) (s.block b h4 (by rw [h3];exact hT))⟩
theorem Qy.at {w:World} {o:Own} {v:Value} {ls:List AA} (h:Qy w o v ls):∃ b off cap,v = .slice (some ⟨b,off,none⟩) ls.length cap∧ls.length ≤ cap∧cap ≤ maxLen ∧
  ∀ i x,ls[i]?=some x→∃ bv,Bytes w o bv x.bytes∧w.rangeAt b (off+i*4) (BQ x bv):=by
 obtain ⟨b,off,cap,bvs,hv,h1,h2,h3,h4,h5,h6⟩:=h
 refine ⟨b,off,cap,hv,h1,h2,fun i x hx => ?_⟩
 have hi:i<bvs.length:=by rw [h5.1,List.length_map];exact (List.getElem?_eq_some_iff.1 hx).1
 exact ⟨bvs[i],h5.2 i _ _ (List.getElem?_eq_getElem hi) (by rw [List.getElem?_map,hx];rfl),h6 i x _ hx (List.getElem?_eq_getElem hi)⟩
def endOf (p n:Nat) (w:World):Nat:=match w.cell? ⟨p,5,none⟩ with
 | some (.int _ e)=>n - e.toNat
 | _=>0
theorem TF {w:World} {b off:Nat} {x:AA} {bv:Value} (hr:w.rangeAt b off (BQ x bv)):(Instr.loadAt 238 (.pointer (some ⟨b,off,none⟩))).run prog w = .ok (.agg (BQ x bv).toArray) w:=by
 simp only [Instr.loadAt,Instr.sureAddr,Sem.run_bind,Sem.run_pure,Result.andThen_ok]
 exact run_loadVar_mid w b off 238 (BQ x bv) _ hr underlying238 rfl (by kernel_rfl)
theorem Zp:((prog.info? 238).bind (·.zero)).map (·.cells)=some #[.int .u64 0, .int .i64 0, .int .i64 0, .slice none 0 0]:=by kernel_rfl
theorem IK {w:World} {o:Own} {x:AA} {bv:Value} (h:Bytes w o bv x.bytes):(BQ x bv).all (·.oneCell')=true:=by
 obtain ⟨a,c,rfl⟩:=Aq h;rfl
section
variable {w:World} {o:Own} {L p pd:Nat} {m:Ad}
theorem YL (hL:L ≠ 0) (h:BZ w o L p pd m) (ls:List AA) (lv:Value) (hlv:Qy w o lv ls) (h1:1 ≤ ls.length) (hn:ls.length ≤ m.n) (hb:∀ x ∈ ls,x.bytes.length ≤ 480∧x.of'<65536∧x.at'<65536) (he:m.end'=1) (hrs:m.records=[]) :
  Calls prog 172 #[.pointer (some ⟨p,0,none⟩),lv] w (XL (Only L) w o fun v w' o'=>v = .tuple #[]∧BZ w' o' L p pd { m with records:=(Ad.readAll ls).2.2,end':=(Ad.readAll ls).1 }):=by
 have hN:¬ Only L 0:=fun h=>hL h.symm
 obtain ⟨g1,g2,g3, -⟩:=h.wf
 obtain ⟨b,off,cap,rfl,hcap,hcm,hat⟩:=hlv.at
 obtain ⟨x0,hx0⟩:∃ x0,ls[0]?=some x0:=⟨_,List.getElem?_eq_getElem (by omega)⟩
 obtain ⟨bv0,AzU,hr0⟩:=hat 0 x0 hx0
 have c00:=hr0 0 _ rfl
 simp only [Nat.zero_mul,Nat.add_zero] at c00
 have hhs:Ad.AaJ ls=x0.stamp:=by
  cases ls with
  | nil=>simp at hx0
  | cons y r=>simp only [List.getElem?_cons_zero,Option.some.injEq] at hx0;subst hx0;rfl
 obtain ⟨N,hNl⟩:∃ N,ls.length=N:=⟨_,rfl⟩
 have BfB:=hidden hat
 have Aki:=hidden hlv
 have xZ:=hidden hb
 have hNH:=hidden hNl
 have hfin:Hid (Ad.readAll ls=Ad.Eb ls N (1,x0.stamp,[])):=hidden (by unfold Ad.readAll;rw [hhs,hNl])
 have hl0:BZ w o L p pd { m with records:=[],end':=1 }:=by
  have:({ m with records:=[],end':=1 }:Ad)=m:=by cases m;simp only at he hrs;subst he;subst hrs;rfl
  rw [this];exact h
 rw [hNl] at h1 hn hcap Aki ⊢
 have hcm2:(cap:Int) ≤ 9223372036854775807:=by simp only [maxLen] at hcm;omega
 have hcap2:(N:Int) ≤ (cap:Int):=by omega
 have hN2:(N:Int) ≤ 2000:=by omega
 have hN1:(0:Int)<(N:Int):=by omega
 clear hat hlv hb hNl hr0 AzU hhs hx0 h he hrs hcm
 go_enter func172,ntmps172
 go_wp2_with fail
 go_loopw [4] (fun s4 wr=>∃ (f e:Nat) (last:BitVec 64) (rs:List (List UInt8)) (o':Own),s4 = .int .u64 (last.toNat:Int)∧Step (Only L) w o wr o'∧BZ wr o' L p pd { m with records:=rs,end':=e }∧N - e ≤ f∧1 ≤ e∧e ≤ N∧Hid (Ad.Eb ls N (1,x0.stamp,[])=Ad.Eb ls f (e,last,rs)))
  (fun _ wr=>endOf p N wr)
 case atStart=>exact ⟨N,1,x0.stamp,[],o,rfl,Step.refl _ _ _,hl0,by omega,Nat.le_refl _,h1,hidden rfl⟩
 case round =>
  obtain ⟨f,e,last,rs,o1,rfl,hst,hl,hf,he1,heN,hR⟩:=hrel
  clear hl0 c00
  have vY:=hl.held
  obtain ⟨-, -, -, -, -,d5, -⟩:=vY
  simp only at d5
  have d5e:endOf p N wr=N - e:=by unfold endOf;rw [d5];simp
  have d5H:=hidden d5e
  clear d5e
  by_cases hlt:e<N
  ·obtain ⟨x,hx⟩:∃ x,ls[e]?=some x:=⟨_,List.getElem?_eq_getElem (by rw [hNH.out];exact hlt)⟩
   have hlv1:=Aki.out.step hst hN
   obtain ⟨b',off',cap',hv', -, -,hat'⟩:=hlv1.at
   simp only [Value.slice.injEq,Option.some.injEq,Addr.mk.injEq] at hv'
   obtain ⟨⟨rfl,rfl, -⟩, -,rfl⟩:=hv'
   obtain ⟨bv,hbv,hr⟩:=hat' e x hx
   have BfA:=hidden hat'
   obtain ⟨hxl,hxo,hxa⟩:=xZ.out x (List.mem_of_getElem? hx)
   have hld:=hidden (TF hr)
   have hal:=hidden (AB (P:=prog) wr 238 _ Zp)
   have hsw:=Be wr #[.int .u64 0, .int .i64 0, .int .i64 0, .slice none 0 0] 238 (BQ x bv) rfl
   obtain ⟨hso, -⟩:=Ba (P:=prog) (ty:=238) (vs:=BQ x bv) (heap_alloc_new wr (.cells [.int .u64 0, .int .i64 0, .int .i64 0, .slice none 0 0].toArray 238)) rfl (by kernel_rfl) (IK hbv)
   rw [hsw] at hso
   have Aaz:=hidden hso
   have hsa:=(Step.refl Nobody wr o1).alloc (.cells (BQ x bv).toArray 238) (0,0)
   have hxb:(wr.alloc (.cells (BQ x bv).toArray 238)).heap[wr.heap.size]?=some (.cells (BQ x bv).toArray 238 (0,0)):=heap_alloc_new wr _
   have AnE:Ak o1 wr.heap.size (0,0) wr.heap.size=(0,0):=Au _ _ _
   have hl1:=hl.step hsa id id
   have hlv2:=hlv1.step hsa id
   have Ajk:=hbv.step hsa id
   have hst1:=hst.trans (hsa.only L)
   have Bfx:(e:Int)<(N:Int):=by omega
   have hxH:=hidden hx
   clear hsw hso hat' hlv1 hr hbv hx
   go_wp2_with (first
    | ((with_reducible apply Bo);exact hld.out;simp only [Act.put,GL,DL,lss])
    | ((with_reducible apply AU);exact hal.out;simp only [Act.put,GL,DL,lss])
    | ((with_reducible apply AC);exact Aaz.out;simp only [Act.put]))
   obtain ⟨W1,hW1⟩:∃ W1,wr.alloc (.cells (BQ x bv).toArray 238)=W1:=⟨_,rfl⟩
   have AoZ:∀ (w':World) (o':Own),Step (Only L) w o w' o'→BZ w' o' L p pd { m with records:=rs,end':=e }→Ad.accept ls e last=none →
     XL (Only L) w o (fun v w' o'=>v = .tuple #[]∧BZ w' o' L p pd { m with records:=(Ad.readAll ls).2.2,end':=(Ad.readAll ls).1 }) (.returned (.tuple #[])) w':=fun w' o' hs hl hacc=>by
    rw [hfin.out,hR.out,Ad.Gp (s:=(e,last,rs)) hacc]
    exact ⟨_,o',rfl,hs,rfl,hl⟩
   have Aac:=hidden AoZ
   clear AoZ
   rw [hW1] at hsa hxb hl1 hlv2 Ajk hst1 ⊢
   generalize Ak o1 wr.heap.size (0,0)=o2 at *
   obtain ⟨xb,ApL⟩:∃ xb,wr.heap.size=xb:=⟨_,rfl⟩
   have Bcw:w.heap.size ≤ xb:=by rw [←ApL];exact hst.size
   rw [ApL] at hxb AnE ⊢
   clear hW1 ApL hld hal Aaz hsa d5
   have y0:=cell_of_block hxb 0
   have y2:=cell_of_block hxb 2
   simp only [BQ,List.getElem?_cons_zero,List.getElem?_cons_succ] at y0 y2
   have vY:=hl1.held
   obtain ⟨-, -, -, -, -,d5, -⟩:=vY
   simp only at d5
   have hdr:Step Nobody W1 o2 W1.drew o2:=(Step.refl _ _ _).drew
   have hst2:=hst1.trans (hdr.only L)
   have hl2:=hl1.step hdr id id
   have BcA:(N:Int) - (e:Int)=((N - e:Nat):Int):=by omega
   have hneq:¬ (N ≤ e):=by omega
   by_cases hA:x.stamp.toNat ≤ last.toNat
   ·have hacc:Ad.accept ls e last=none:=by unfold Ad.accept;rw [hxH.out];simp only;rw [if_pos (.inl hA)]
    have hAi:(x.stamp.toNat:Int) ≤ (last.toNat:Int):=by omega
    have Aij:=hidden hacc
    clear hacc
    refine Aa (fun w'=>w'.cell? ⟨xb,0,none⟩=some (.int .u64 (x.stamp.toNat:Int))∧w'.cell? ⟨xb,2,none⟩=some (.int .i64 (x.of':Int))∧w'.cell? ⟨p,5,none⟩=some (.int .i64 (e:Int))) (fun _=>true) (by kernel_rfl) ⟨y0,y2,d5⟩ (fun hHeld => ?_)
    refine tq 0 (h:=tq 1 (h:=tq 2 (h:=tq 3 (h:=tq 4 (h:=ts 5 (h:=ts 6 (h:=ts 7 (h:=tq 8 (h:=tq 9 (h:=ts 10 (h:=ts 11 (h:=ts 12 (h:=ts 13 (h:=?_))))))))))))))
    refine ts 14 (h:=ts 15 (h:=ts 16 (h:=ts 17 (h:=ts 18 (h:=ts 19 (h:=tq 20 (h:=tD (h:=?_))))))))
    go_wp2_with fail
    (try simp only [Exit.inBlock,Exit.then]);refine bodyPost_ret (results_none rfl _ _ _) rfl ?_
    exact Aac.out _ o2 hst2 hl2 Aij.out
   by_cases hB:x.of'<1
   ·have hacc:Ad.accept ls e last=none:=by unfold Ad.accept;rw [hxH.out];simp only;rw [if_pos (.inr (.inl hB))]
    have hAi:¬ (x.stamp.toNat:Int) ≤ (last.toNat:Int):=by omega
    have hBi:(x.of':Int)<1:=by omega
    have Aij:=hidden hacc
    clear hacc
    refine Aa (fun w'=>w'.cell? ⟨xb,0,none⟩=some (.int .u64 (x.stamp.toNat:Int))∧w'.cell? ⟨xb,2,none⟩=some (.int .i64 (x.of':Int))∧w'.cell? ⟨p,5,none⟩=some (.int .i64 (e:Int))) (fun _=>true) (by kernel_rfl) ⟨y0,y2,d5⟩ (fun hHeld => ?_)
    refine tq 0 (h:=tq 1 (h:=tq 2 (h:=tq 3 (h:=tq 4 (h:=tq 5 (h:=tq 6 (h:=tq 7 (h:=tq 8 (h:=tq 9 (h:=ts 10 (h:=ts 11 (h:=ts 12 (h:=ts 13 (h:=?_))))))))))))))
    refine ts 14 (h:=ts 15 (h:=ts 16 (h:=ts 17 (h:=ts 18 (h:=ts 19 (h:=tq 20 (h:=tD (h:=?_))))))))
    go_wp2_with fail
    (try simp only [Exit.inBlock,Exit.then]);refine bodyPost_ret (results_none rfl _ _ _) rfl ?_
    exact Aac.out _ o2 hst2 hl2 Aij.out
   by_cases hC:N - e<x.of'
   ·have hacc:Ad.accept ls e last=none:=by unfold Ad.accept;rw [hxH.out];simp only;rw [if_pos (.inr (.inr (by rw [hNH.out];exact hC)))]
    have hAi:¬ (x.stamp.toNat:Int) ≤ (last.toNat:Int):=by omega
    have hBi:¬ (x.of':Int)<1:=by omega
    have hCi:((N - e:Nat):Int)<(x.of':Int):=by omega
    have Aij:=hidden hacc
    clear hacc
    refine Aa (fun w'=>w'.cell? ⟨xb,0,none⟩=some (.int .u64 (x.stamp.toNat:Int))∧w'.cell? ⟨xb,2,none⟩=some (.int .i64 (x.of':Int))∧w'.cell? ⟨p,5,none⟩=some (.int .i64 (e:Int))) (fun _=>true) (by kernel_rfl) ⟨y0,y2,d5⟩ (fun hHeld => ?_)
    refine tq 0 (h:=tq 1 (h:=tq 2 (h:=tq 3 (h:=tq 4 (h:=tq 5 (h:=tq 6 (h:=tq 7 (h:=tq 8 (h:=tq 9 (h:=tq 10 (h:=tq 11 (h:=tq 12 (h:=tq 13 (h:=?_))))))))))))))
    refine tq 14 (h:=tq 15 (h:=tq 16 (h:=tq 17 (h:=tq 18 (h:=tq 19 (h:=tq 20 (h:=?_)))))))
    rw [wrap_i64 (n:=((N - e:Nat):Int)) (by omega) (by omega)]
    rw [show decide (((N - e:Nat):Int)<(x.of':Int))=true from by simpa using hCi]
    refine tD (h:=?_)
    go_wp2_with fail
    (try simp only [Exit.inBlock,Exit.then]);refine bodyPost_ret (results_none rfl _ _ _) rfl ?_
    exact Aac.out _ o2 hst2 hl2 Aij.out
   have hAi:¬ (x.stamp.toNat:Int) ≤ (last.toNat:Int):=by omega
   have hBi:¬ (x.of':Int)<1:=by omega
   have hCi:¬ ((N - e:Nat):Int)<(x.of':Int):=by omega
   refine Aa (fun w'=>w'.cell? ⟨xb,0,none⟩=some (.int .u64 (x.stamp.toNat:Int))∧w'.cell? ⟨xb,2,none⟩=some (.int .i64 (x.of':Int))∧w'.cell? ⟨p,5,none⟩=some (.int .i64 (e:Int))) (fun _=>true) (by kernel_rfl) ⟨y0,y2,d5⟩ (fun hHeld => ?_)
   refine tq 0 (h:=tq 1 (h:=tq 2 (h:=tq 3 (h:=tq 4 (h:=tq 5 (h:=tq 6 (h:=tq 7 (h:=tq 8 (h:=tq 9 (h:=tq 10 (h:=tq 11 (h:=tq 12 (h:=tq 13 (h:=?_))))))))))))))
   refine tq 14 (h:=tq 15 (h:=tq 16 (h:=tq 17 (h:=tq 18 (h:=tq 19 (h:=tq 20 (h:=?_)))))))
   rw [wrap_i64 (n:=((N - e:Nat):Int)) (by omega) (by omega)]
   rw [show decide (((N - e:Nat):Int)<(x.of':Int))=false from by simpa using hCi]
   refine tD (h:=?_)
   clear hAi hBi hCi hHeld
   go_wp2_with fail
   have hi1:(e:Int) ≤ (e:Int)+(x.of':Int):=by omega
   have hi2:(e:Int)+(x.of':Int) ≤ (cap:Int):=by omega
   have hi3:(0:Int) ≤ (e:Int)+(x.of':Int):=by omega
   have hne:¬ (cap=e):=by omega
   refine Aa (fun w'=>w'.cell? ⟨xb,2,none⟩=some (.int .i64 (x.of':Int))∧w'.cell? ⟨p,5,none⟩=some (.int .i64 (e:Int))) (fun _=>true) (by kernel_rfl) ⟨y2,d5⟩ (fun hHeld => ?_)
   refine tq 0 (h:=tq 1 (h:=tq 2 (h:=tq 3 (h:=tq 4 (h:=tq 5 (h:=tq 6 (h:=tq 7 (h:=tq 8 (h:=tq 9 (h:=tq 10 (h:=tq 11 (h:=?_))))))))))))
   rw [wrap_i64 (n:=(e:Int)+(x.of':Int)) (by omega) (by omega)]
   refine tq 12 (h:=tq 13 (h:=tq 14 (h:=tD (h:=?_))))
   clear hHeld
   have Aml:Step Nobody W1.drew o2 W1.drew.drew o2:=(Step.refl _ _ _).drew
   have hl3:=hl2.step Aml id id
   have hst3:=hst2.trans (Aml.only L)
   have Atj:W1.drew.drew.heap[xb]?=some (.cells (BQ x bv).toArray 238 (0,0)):=hxb
   have hlv3:=(hlv2.step hdr id).step Aml id
   have Bfz:=(Ajk.step hdr id).step Aml id
   generalize W1.drew.drew=W2 at *
   clear Aml hdr hst2 hl2 hxb hlv2 Ajk hl1 hst1 y0 y2 d5
   rw [show ((e:Int)+(x.of':Int)).toNat - e=x.of' from by omega]
   obtain ⟨K,hK⟩:∃ K,x.of'=K:=⟨_,rfl⟩
   have hKH:=hidden hK
   rw [hK] at hB hC hxo hi1 hi2 hi3 ⊢
   have hKi:(K:Int) ≤ 2000:=by omega
   have AdT:=hst3.size
   go_wp2_with fail
   go_loopw [6,62] (fun rec i wr=>∃ k:Nat,k ≤ K∧i = .int .i64 k∧Below W2.heap.size W2 wr∧wr.ownsRow W2.heap.size 5 1 rec (((ls.drop e).take k).flatMap AA.bytes).length (bvs (((ls.drop e).take k).flatMap AA.bytes))∧Hid (∀ j,j<k→∃ y,ls[e+j]?=some y∧y.stamp=x.stamp∧y.at'=j∧y.of'=K))
    (fun _ i _=>K - (intOf i).toNat)
   case atStart=>exact ⟨0,Nat.zero_le _,rfl,Below.refl _ _,by simpa using World.ownsRow_nil _ _ _ _,hidden (fun j hj=>by omega)⟩
   case round =>
    obtain ⟨k,hk,rfl,hbel,hown,hall⟩:=hrel
    have rH:Step Nobody W2 o2 _ (Nb W2 o2):=⟨hbel.os,hbel.tape,hbel.output,hbel.size,fun k hk=>if_pos hk,fun k hk _=>hbel.block k hk⟩
    have Ati:=lt_of_block Atj
    have Akc:=(hbel.block xb Ati).trans Atj
    have y0:=cell_of_block Akc 0
    have y2:=cell_of_block Akc 2
    simp only [BQ,List.getElem?_cons_zero,List.getElem?_cons_succ] at y0 y2
    rw [hKH.out] at y2
    have hl4:=hl3.step rH id id
    have pX:=hst3.trans (rH.only L)
    have Abc:=hbel.size
    by_cases hkK:k<K
    ·obtain ⟨y,hy⟩:∃ y,ls[e+k]?=some y:=⟨_,List.getElem?_eq_getElem (by rw [hNH.out];omega)⟩
     have Ahi:=hlv3.step rH id
     obtain ⟨b',off',cap',hv', -, -,hat'⟩:=Ahi.at
     simp only [Value.slice.injEq,Option.some.injEq,Addr.mk.injEq] at hv'
     obtain ⟨⟨rfl,rfl, -⟩, -,rfl⟩:=hv'
     obtain ⟨bw,hbw,hr⟩:=hat' (e+k) y hy
     rw [Nat.add_mul, ←Nat.add_assoc] at hr
     obtain ⟨hyl,hyo,hya⟩:=xZ.out y (List.mem_of_getElem? hy)
     have hld:=hidden (TF hr)
     have hal:=hidden (AB (P:=prog) wr 238 _ Zp)
     have hsw:=Be wr #[.int .u64 0, .int .i64 0, .int .i64 0, .slice none 0 0] 238 (BQ y bw) rfl
     obtain ⟨hso, -⟩:=Ba (P:=prog) (ty:=238) (vs:=BQ y bw) (heap_alloc_new wr (.cells [.int .u64 0, .int .i64 0, .int .i64 0, .slice none 0 0].toArray 238)) rfl (by kernel_rfl) (IK hbw)
     rw [hsw] at hso
     have Aaz:=hidden hso
     have hba:Below W2.heap.size W2 (wr.alloc (.cells (BQ y bw).toArray 238)):=hbel.alloc Abc _
     have Aod:=(Step.refl Nobody wr (Nb W2 o2)).alloc (.cells (BQ y bw).toArray 238) (0,0)
     have hyb:(wr.alloc (.cells (BQ y bw).toArray 238)).heap[wr.heap.size]?=some (.cells (BQ y bw).toArray 238 (0,0)):=heap_alloc_new wr _
     have z0:(wr.alloc (.cells (BQ y bw).toArray 238)).cell? ⟨wr.heap.size,0,none⟩=some (.int .u64 (y.stamp.toNat:Int)):=cell_of_block hyb 0
     have z1:(wr.alloc (.cells (BQ y bw).toArray 238)).cell? ⟨wr.heap.size,1,none⟩=some (.int .i64 (y.at':Int)):=cell_of_block hyb 1
     have z2:(wr.alloc (.cells (BQ y bw).toArray 238)).cell? ⟨wr.heap.size,2,none⟩=some (.int .i64 (y.of':Int)):=cell_of_block hyb 2
     have z3:(wr.alloc (.cells (BQ y bw).toArray 238)).cell? ⟨wr.heap.size,3,none⟩=some bw:=cell_of_block hyb 3
     have ApM:=(Aod.block xb (by omega) id).trans Akc
     have v0:(wr.alloc (.cells (BQ y bw).toArray 238)).cell? ⟨xb,0,none⟩=some (.int .u64 (x.stamp.toNat:Int)):=cell_of_block ApM 0
     have v2:(wr.alloc (.cells (BQ y bw).toArray 238)).cell? ⟨xb,2,none⟩=some (.int .i64 (x.of':Int)):=cell_of_block ApM 2
     rw [hKH.out] at v2
     have hl5:=hl4.step Aod id id
     have hst5:=pX.trans (Aod.only L)
     have hownA:=hown.alloc (.cells (BQ y bw).toArray 238)
     have AqR:=hbw.step Aod id
     have hki:(k:Int)<(K:Int):=by omega
     have hbad:¬ (y.stamp=x.stamp∧y.at'=k∧y.of'=K)→Ad.accept ls e last=none:=fun hne=>by
      cases hac:Ad.accept ls e last with
      | none=>rfl
      | some q =>
       obtain ⟨k',X,c⟩:=q
       obtain ⟨_,_,_,h4,_⟩:=Ad.DW hac
       obtain ⟨x',hx',q1,_,q3⟩:=h4 0 (by have:=(Ad.DW hac).1;omega)
       rw [Nat.add_zero,hxH.out] at hx'
       simp only [Option.some.injEq] at hx'
       subst hx'
       obtain ⟨y',hy',p1,p2,p3⟩:=h4 k (by rw [←q3,hKH.out];exact hkK)
       rw [hy] at hy'
       simp only [Option.some.injEq] at hy'
       subst hy'
       exact absurd ⟨by rw [p1,q1],p2,by rw [p3, ←q3,hKH.out]⟩ hne
     have AcU:=hidden hbad
     have hyH:=hidden hy
     have hlenp:(((ls.drop e).take k).flatMap AA.bytes).length ≤ 480*2000:=by
      have Afo:∀ (l:List AA),(∀ z ∈ l,z.bytes.length ≤ 480)→(l.flatMap AA.bytes).length ≤ 480*l.length:=by
       intro l
       induction l with
       | nil=>intro _;simp
       | cons z r ih =>
        intro hz
        have:=ih (fun q hq=>hz q (by simp [hq]))
        have hz0:=hz z (by simp)
        simp only [List.flatMap_cons,List.length_append,List.length_cons];omega
      have h1:=Afo ((ls.drop e).take k) (fun z hz=>(xZ.out z (List.mem_of_mem_drop (List.mem_of_mem_take hz))).1)
      have h2:((ls.drop e).take k).length ≤ k:=by simp;omega
      omega
     have Amk:(ls.drop e).take (k+1)=(ls.drop e).take k++[y]:=by
      rw [List.take_add_one,List.getElem?_drop,hy];rfl
     clear hbad hy hsw hso hat' Ahi hr hbw y0 y2 Akc ApM hyb hba
     generalize hRk:((ls.drop e).take k).flatMap AA.bytes=Rk at *
     have Bat:=hidden hRk
     clear hRk
     obtain ⟨ra,rcp,rfl⟩:=BA hown
     by_cases hm1:y.stamp=x.stamp
     ·have hb1:((x.stamp.toNat:Int) != (x.stamp.toNat:Int))=false:=by simp
      rw [hm1] at z0
      by_cases hm2:y.at'=k
      ·have hb2:((k:Int) != (k:Int))=false:=by simp
       rw [hm2] at z1
       by_cases hm3:y.of'=K
       ·have hb3:((K:Int) != (K:Int))=false:=by simp
        rw [hm3] at z2
        obtain ⟨v',w3,hrun,hown3,hgrow⟩:=Qu (wr.alloc (.cells (BQ y bw).toArray 238)) (base:=W2.heap.size) (by simp;omega) hownA AqR (by omega)
        have Akn:Below W2.heap.size W2 w3:=(hbel.alloc Abc _).grown hgrow (by simp;omega) (fun k hk=>(hownA.lt k hk).1)
        have AvY:((ls.drop e).take (k+1)).flatMap AA.bytes=Rk++y.bytes:=by rw [Amk,List.flatMap_append,Bat.out];simp
        have AvC:Hid (∀ j,j<k+1→∃ y,ls[e+j]?=some y∧y.stamp=x.stamp∧y.at'=j∧y.of'=K):=hidden fun j hj=>by
         by_cases hjk:j=k
         ·subst hjk;exact ⟨y,hyH.out,hm1,hm2,hm3⟩
         ·exact hall.out j (by omega)
        have AtH:=hidden (show w3.ownsRow W2.heap.size 5 1 v' (((ls.drop e).take (k+1)).flatMap AA.bytes).length (bvs (((ls.drop e).take (k+1)).flatMap AA.bytes)) from by rw [AvY,List.length_append];exact hown3)
        obtain ⟨wa,wc,rfl⟩:=Aq AqR
        have Aax:=hidden hrun
        clear hm1 hm2 hm3 hrun hown3 hgrow AcU AvY hall hown hownA AqR hl5 hst5 Amk
        go_wp2_with (first
         | ((with_reducible apply Bo);exact hld.out;simp only [Act.put,GL,DL,lss])
         | ((with_reducible apply AU);exact hal.out;simp only [Act.put,GL,DL,lss])
         | ((with_reducible apply AC);exact Aaz.out;simp only [Act.put])
         | ((with_reducible apply Bl);exact Aax.out;simp only [Act.put,GL,DL,lss]))
        go_roundw
        case rel=>exact ⟨k+1,hkK,by go_num,Akn,AtH.out,AvC⟩
        case measure=>simp [intOf];omega
       ·have hb3:((y.of':Int) != (K:Int))=true:=by rw [bne_iff_ne];omega
        have hacc:=hidden (AcU.out (fun h=>hm3 h.2.2))
        clear hm3
        go_wp2_with (first
         | ((with_reducible apply Bo);exact hld.out;simp only [Act.put,GL,DL,lss])
         | ((with_reducible apply AU);exact hal.out;simp only [Act.put,GL,DL,lss])
         | ((with_reducible apply AC);exact Aaz.out;simp only [Act.put]))
        (try simp only [Exit.inBlock,Exit.then]);refine bodyPost_ret (results_none rfl _ _ _) rfl ?_
        exact Aac.out _ _ hst5 hl5 hacc.out
      ·have hb2:((y.at':Int) != (k:Int))=true:=by rw [bne_iff_ne];omega
       have hacc:=hidden (AcU.out (fun h=>hm2 h.2.1))
       clear hm2
       go_wp2_with (first
        | ((with_reducible apply Bo);exact hld.out;simp only [Act.put,GL,DL,lss])
        | ((with_reducible apply AU);exact hal.out;simp only [Act.put,GL,DL,lss])
        | ((with_reducible apply AC);exact Aaz.out;simp only [Act.put]))
       (try simp only [Exit.inBlock,Exit.then]);refine bodyPost_ret (results_none rfl _ _ _) rfl ?_
       exact Aac.out _ _ hst5 hl5 hacc.out
     ·have hb1:((y.stamp.toNat:Int) != (x.stamp.toNat:Int))=true:=by
       rw [bne_iff_ne];intro h;exact hm1 (BitVec.eq_of_toNat_eq (by omega))
      have hacc:=hidden (AcU.out (fun h=>hm1 h.1))
      clear hm1
      go_wp2_with (first
       | ((with_reducible apply Bo);exact hld.out;simp only [Act.put,GL,DL,lss])
       | ((with_reducible apply AU);exact hal.out;simp only [Act.put,GL,DL,lss])
       | ((with_reducible apply AC);exact Aaz.out;simp only [Act.put]))
      (try simp only [Exit.inBlock,Exit.then]);refine bodyPost_ret (results_none rfl _ _ _) rfl ?_
      exact Aac.out _ _ hst5 hl5 hacc.out
    ·obtain rfl:K=k:=by omega
     obtain ⟨R,hR0⟩:∃ R,((ls.drop e).take K).flatMap AA.bytes=R:=⟨_,rfl⟩
     have hacc:Ad.accept ls e last=some (K,x.stamp,R):=by
      rw [←hR0]
      exact Ad.Hl (by omega) (by rw [hNH.out];omega) (by omega) hall.out
     have AvX:R.length ≤ 960000:=by
      have Afo:∀ (l:List AA),(∀ z ∈ l,z.bytes.length ≤ 480)→(l.flatMap AA.bytes).length ≤ 480*l.length:=by
       intro l
       induction l with
       | nil=>intro _;simp
       | cons z r ih =>
        intro hz
        have:=ih (fun q hq=>hz q (by simp [hq]))
        have hz0:=hz z (by simp)
        simp only [List.flatMap_cons,List.length_append,List.length_cons];omega
      have h1:=Afo ((ls.drop e).take K) (fun z hz=>(xZ.out z (List.mem_of_mem_drop (List.mem_of_mem_take hz))).1)
      have h2:((ls.drop e).take K).length ≤ K:=by simp;omega
      rw [hR0] at h1
      omega
     rw [hR0] at hown
     clear hR0
     obtain ⟨f',rfl⟩:∃ f',f=f'+1:=⟨f - 1,by omega⟩
     have hR':Hid (Ad.Eb ls N (1,x0.stamp,[])=Ad.Eb ls f' (e+K,x.stamp,rs++[R])):=hidden (hR.out.trans (Ad.LC (s:=(e,last,rs)) hacc f'))
     obtain ⟨ra,rcp,rfl⟩:=BA hown
     have hRb:Bytes wr (Nb W2 o2) (.slice ra R.length rcp) R:=Ry hown (fun q hq=>by unfold Nb;rw [if_neg (by have:=(hown.lt q hq).1;omega)])
     have hRm:Mine wr (Nb W2 o2) (.slice ra R.length rcp):=fun q off n c e hn=>by
      simp only [Value.slice.injEq] at e
      have:=hown.lt q (by rw [e.1];rfl)
      exact ⟨this.2,by unfold Nb;rw [if_neg (by omega)]⟩
     have Avi:Step Nobody wr (Nb W2 o2) wr.drew (Nb W2 o2):=(Step.refl _ _ _).drew
     have hsA:=Avi.trans ((Step.refl Nobody wr.drew (Nb W2 o2)).alloc (.cells #[.slice ra R.length rcp] 29) (0,0))
     have hlA:=hl4.step hsA id id
     have hRA:=hRb.step hsA id
     have AvZ:=hRm.step hsA
     have hnb:(wr.drew.alloc (.cells #[.slice ra R.length rcp] 29)).heap[wr.heap.size]?=some (.cells #[.slice ra R.length rcp] 29 (0,0)):=heap_alloc_new wr.drew _
     have Atk:Ad.wf { m with records:=rs,end':=e }:=hl4.wf
     have Atl:({ ({ m with records:=rs,end':=e }:Ad) with records:=rs++[R],end':=e+K }:Ad).wf:=by
      obtain ⟨q1,q2,q3,q4,q5,q6,q7⟩:=Atk
      simp only at q1 q2 q3 q4 q5 q6 q7
      refine ⟨q1,q2,q3,by show 1 ≤ e+K;omega,by show e+K ≤ m.n;omega,by show (rs++[R]).length+1 ≤ e+K;simp only [List.length_append,List.length_cons,List.length_nil];omega, ?_⟩
      intro r hr
      rcases List.mem_append.1 hr with hr | hr
      ·exact q7 r hr
      ·simp only [List.mem_singleton] at hr;subst hr;exact AvX
     obtain ⟨rv,v',w3,o3,hc6,⟨rva,rvc,hrv⟩,hrun,⟨v'a,v'c,hv'⟩,hs3,hp3,hs5,hlN⟩:=hlA.append hL hnb hRA AvZ (e+K) Atl
     subst hrv hv'
     simp only at hc6 hrun hs5 hlN
     have wS:p<wr.heap.size:=hl4.lt
     have AzR:wr.drew.cell? ⟨p,6,none⟩=some (.slice rva rs.length rvc):=by
      rw [←hc6,World.cell?_alloc_lt _ _ _ wS]
     have AqL:=hl4.held
     obtain ⟨-, -, -, -, -,c5w, -⟩:=AqL
     simp only at c5w
     have Ath:=lt_of_block Akc
     have Ala:(wr.drew.alloc (.cells #[.slice ra R.length rcp] 29)).heap[xb]?=some (.cells (BQ x bv).toArray 238 (0,0)):=(hsA.block xb Ath id).trans Akc
     have Bfa:xb ≠ p:=by
      intro h;rw [h] at AnE
      have h1:=hl3.wE
      rw [AnE] at h1
      exact hL h1.symm
     have AyE:(Ak (Nb W2 o2) wr.heap.size (0,0) xb).1=0:=by
      rw [BI _ _ (by omega)]
      unfold Nb;rw [if_pos Ati,AnE]
     have Alb:w3.heap[xb]?=some (.cells (BQ x bv).toArray 238 (0,0)):=(hs3.block xb (lt_of_block Ala) (by show ¬ _=L;rw [show wr.drew.heap.size=wr.heap.size from rfl,AyE];exact fun h=>hL h.symm)).trans Ala
     have k0:wr.drew.cell? ⟨xb,0,none⟩=some (.int .u64 (x.stamp.toNat:Int)):=y0
     have k2:wr.drew.cell? ⟨xb,2,none⟩=some (.int .i64 (K:Int)):=y2
     have a0:(wr.drew.alloc (.cells #[.slice ra R.length rcp] 29)).cell? ⟨xb,0,none⟩=some (.int .u64 (x.stamp.toNat:Int)):=cell_of_block Ala 0
     have a2:(wr.drew.alloc (.cells #[.slice ra R.length rcp] 29)).cell? ⟨xb,2,none⟩=some (.int .i64 (K:Int)):=by rw [←hKH.out];exact cell_of_block Ala 2
     have a5:(wr.drew.alloc (.cells #[.slice ra R.length rcp] 29)).cell? ⟨p,5,none⟩=some (.int .i64 (e:Int)):=by rw [World.cell?_alloc_lt _ _ _ wS];exact c5w
     have b0:w3.cell? ⟨xb,0,none⟩=some (.int .u64 (x.stamp.toNat:Int)):=cell_of_block Alb 0
     have b2:w3.cell? ⟨xb,2,none⟩=some (.int .i64 (K:Int)):=by rw [←hKH.out];exact cell_of_block Alb 2
     have b5:w3.cell? ⟨p,5,none⟩=some (.int .i64 (e:Int)):=(World.cell?_of_block (a:=⟨p,5,none⟩) hp3).trans a5
     have b6:w3.cell? ⟨p,6,none⟩=some (.slice rva rs.length rvc):=(World.cell?_of_block (a:=⟨p,6,none⟩) hp3).trans hc6
     obtain ⟨_,_,hpA, -⟩:=hlA
     have f5:=Ap (hp3.trans hpA) 5
     have f6:=Ap (hp3.trans hpA) 6
     have s0:(w3.setCell ⟨p,6,none⟩ (.slice v'a (rs.length+1) v'c)).cell? ⟨xb,0,none⟩=some (.int .u64 (x.stamp.toNat:Int)):=by rw [World.cell?_setCell_other _ _ _ _ (by simp)];exact b0
     have s2:(w3.setCell ⟨p,6,none⟩ (.slice v'a (rs.length+1) v'c)).cell? ⟨xb,2,none⟩=some (.int .i64 (K:Int)):=by rw [World.cell?_setCell_other _ _ _ _ (by simp)];exact b2
     have s5:(w3.setCell ⟨p,6,none⟩ (.slice v'a (rs.length+1) v'c)).cell? ⟨p,5,none⟩=some (.int .i64 (e:Int)):=by rw [World.cell?_setCell_other _ _ _ _ (by simp)];exact b5
     have t0:((w3.setCell ⟨p,6,none⟩ (.slice v'a (rs.length+1) v'c)).setCell ⟨p,5,none⟩ (.int .i64 ((e+K:Nat):Int))).cell? ⟨xb,0,none⟩=some (.int .u64 (x.stamp.toNat:Int)):=by rw [World.cell?_setCell_other _ _ _ _ (by simp)];exact s0
     have t2:((w3.setCell ⟨p,6,none⟩ (.slice v'a (rs.length+1) v'c)).setCell ⟨p,5,none⟩ (.int .i64 ((e+K:Nat):Int))).cell? ⟨xb,2,none⟩=some (.int .i64 (K:Int)):=by rw [World.cell?_setCell_other _ _ _ _ (by simp)];exact s2
     have AaM:=((pX.trans (hsA.only L)).trans hs5)
     have AoR:endOf p N ((w3.setCell ⟨p,6,none⟩ (.slice v'a (rs.length+1) v'c)).setCell ⟨p,5,none⟩ (.int .i64 ((e+K:Nat):Int)))=N - (e+K):=by
      have:((w3.setCell ⟨p,6,none⟩ (.slice v'a (rs.length+1) v'c)).setCell ⟨p,5,none⟩ (.int .i64 ((e+K:Nat):Int))).cell? ⟨p,5,none⟩=some (.int .i64 ((e+K:Nat):Int)):=World.cell?_setCell_same' _ _ _ (by rw [s5];rfl)
      unfold endOf;rw [this]
      show N - (((e+K:Nat):Int)).toNat=_
      rw [Int.toNat_natCast]
     have hadd:(e:Int)+(K:Int)=((e+K:Nat):Int):=by omega
     have Aax:=hidden hrun
     have hA0:=hidden (aI a0 (aI a2 (aI a5 hc6)))
     have hB0:=hidden (aI b0 (aI b2 (aI b5 b6)))
     have hS0:=hidden (aI s0 (aI s2 s5))
     have hT0:=hidden (aI t0 t2)
     have hF:=hidden (aI AaM (aI hlN AoR))
     have AcO:=hidden hadd
     clear hrun a0 a2 a5 hc6 b0 b2 b5 b6 s0 s2 s5 t0 t2 AaM hlN AoR Alb Ala hs5 hs3 hp3 hnb hRA AvZ hRm hRb hsA Avi hown hall hacc hadd hpA Atl Atk
     go_wp2_with fail
     refine JH (fun i w'=>(w'.cell? ⟨xb,0,none⟩=some (.int .u64 (x.stamp.toNat:Int))∧w'.cell? ⟨xb,2,none⟩=some (.int .i64 (K:Int)))∧(i<23 ∨ 25 ≤ i→w'.cell? ⟨p,5,none⟩=some (.int .i64 (e:Int)))∧(i<20 ∨ 25 ≤ i→w'.cell? ⟨p,6,none⟩=some (.slice rva rs.length rvc))) (by kernel_rfl) ?_
     refine tT 0 (h:=tT 1 (h:=tT 2 (h:=tT 3 (h:=tT 4 (h:=?_)))))
     refine tG 5 (hN:=by exact fun j w hd h=>h.2.2 (Nh (lo:=20) (hi:=25) (by kernel_rfl) j hd)) (h:=?_)
     refine tT 6 (h:=tT 9 (h:=tT 10 (h:=tT 11 (h:=?_))))
     refine tG 12 (hN:=by exact fun j w hd h=>h.2.1 (Nh (lo:=23) (hi:=25) (by kernel_rfl) j hd)) (h:=?_)
     refine tT 13 (h:=?_)
     refine tG 14 (h:=?_)
     refine tT 15 (h:=tT 16 (h:=?_))
     refine tG 17 (h:=?_)
     rw [wrap_i64 (n:=(e:Int)+(K:Int)) (by omega) (by omega),AcO.out]
     refine BX (i:=7) rfl (by kernel_rfl) ?_
     go_wp2_with fail
     refine ⟨.inr ⟨⟨hA0.out.1,hA0.out.2.1⟩,fun _=>hA0.out.2.2.1,fun _=>hA0.out.2.2.2⟩, ?_⟩
     refine BX (i:=8) rfl (by kernel_rfl) ?_
     refine Bl Aax.out ?_
     refine wpList_nil ?_
     refine ⟨.inr ⟨⟨hB0.out.1,hB0.out.2.1⟩,fun _=>hB0.out.2.2.1,fun _=>hB0.out.2.2.2⟩, ?_⟩
     simp only [Act.put,GL,DL,lss]
     have q5:=hB0.out.2.2.1
     have q6:=hB0.out.2.2.2
     refine BX (i:=18) rfl (by kernel_rfl) ?_
     go_wp2_with fail
     (first | refine ⟨.inl trivial, ?_⟩ | refine ⟨.inl rfl, ?_⟩ | skip)
     refine BX (i:=19) rfl (by kernel_rfl) ?_
     go_wp2_with fail
     (first | refine ⟨.inl trivial, ?_⟩ | refine ⟨.inl rfl, ?_⟩ | skip)
     refine BX (i:=20) rfl (by kernel_rfl) ?_
     go_wp2_with fail
     refine ⟨.inr ⟨⟨hS0.out.1,hS0.out.2.1⟩,fun _=>hS0.out.2.2,fun h=>by rcases h with h | h <;> omega⟩, ?_⟩
     refine BX (i:=21) rfl (by kernel_rfl) ?_
     go_wp2_with fail
     (first | refine ⟨.inl trivial, ?_⟩ | refine ⟨.inl rfl, ?_⟩ | skip)
     refine BX (i:=22) rfl (by kernel_rfl) ?_
     go_wp2_with fail
     (first | refine ⟨.inl trivial, ?_⟩ | refine ⟨.inl rfl, ?_⟩ | skip)
     refine BX (i:=23) rfl (by kernel_rfl) ?_
     go_wp2_with fail
     refine ⟨.inr ⟨⟨hT0.out.1,hT0.out.2⟩,fun h=>by rcases h with h | h <;> omega,fun h=>by rcases h with h | h <;> omega⟩, ?_⟩
     refine BX (i:=24) rfl (by kernel_rfl) ?_
     go_wp2_with fail
     (first | refine ⟨.inl trivial, ?_⟩ | refine ⟨.inl rfl, ?_⟩ | skip)
     refine JI (by kernel_rfl) ?_ _
     clear q5 q6 f5 f6
     go_wp2_with fail
     go_roundw
     case rel=>exact ⟨f',e+K,x.stamp,rs++[R],o3,rfl,hF.out.1,hF.out.2.1,by omega,by omega,by omega,hR'⟩
     case measure=>rw [AcO.out,hF.out.2.2,d5H.out];omega
  ·obtain rfl:N=e:=by omega
   have Apa:Ad.readAll ls=(N,last,rs):=by
    rw [hfin.out,hR.out]
    exact Ad.Gp (s:=(N,last,rs)) (by unfold Ad.accept;rw [List.getElem?_eq_none (by rw [hNH.out];exact Nat.le_refl _)]) f
   have AqN:=hidden Apa
   clear Apa
   go_wp2_with fail
   go_end0
   rw [AqN.out]
   exact ⟨_,o1,rfl,hst,rfl,hl⟩
end
theorem VI {α:Type} (l:List α) (i j:Nat) (x d:α) (hi:i<l.length):(l.set i x).getD j d=if i=j then x else l.getD j d:=by
 simp only [List.getD_eq_getElem?_getD,List.getElem?_set]
 by_cases h:i=j
 ·subst h;simp [hi]
 ·simp [h]
namespace Af
def Syn (d:Af) (ls:List (List UInt8)):Prop:=
 d.dead=false∧d.left = -1∧d.pages=List.replicate 6 blank∧ls.length=6∧(∀ p,p<6→seenIn p blank d.row=if ls.getD p []=[] then blank else ls.getD p [])∧∀ x ∈ d.row,x.1<6∧x.2.length=512
end Af
def tvs (ls:List (List UInt8)):List Value:=ls.map fun b => .string ⟨b.toArray⟩
namespace Af
def tick (d:Af):Af:=if d.left<0 then d else { d with left:=d.left - 1 }
theorem ND (d:Af):d.tick.pages=d.pages∧d.tick.row=d.row∧d.tick.dead=d.dead:=by unfold tick;split <;> exact ⟨rfl,rfl,rfl⟩
theorem Rl (d:Af):(d.left<0→d.tick.left=d.left)∧(0<d.left→d.tick.left=d.left - 1):=by
 unfold tick;constructor
 ·intro h;rw [if_pos h]
 ·intro h;rw [if_neg (by omega)]
theorem Nj {d:Af}:d.counted 0=if d.left=0 then ({ d with dead:=true },9) else (d.tick,0):=by
 unfold counted tick
 by_cases h:d.left<0
 ·rw [if_pos (.inr h),if_neg (by omega),if_pos h]
 ·rw [if_neg (by omega)]
  by_cases h2:d.left=0
  ·rw [if_pos h2,if_pos h2]
  ·rw [if_neg h2,if_neg h2,if_neg h]
theorem Zt {d:Af} (hd:d.dead=false) {j:Nat} (hj:j<d.pages.length) {l:List UInt8} (hl:l.length=512) :
  d.write (j:Int) l=if d.left=0 then ({ d with dead:=true },9) else ({ d.tick with row:=d.row++[(j,l)] },0):=by
 have ha:d.asked (j:Int) l.length=0:=by
  unfold asked;rw [hd];simp only [Bool.false_eq_true,if_false];rw [if_neg (by omega)]
 unfold write
 rw [ha,Nj]
 split
 ·simp
 ·simp [(ND d).2.1]
theorem dD {d:Af} (hd:d.dead=false) (hp:0<d.pages.length) :
  d.sync=if d.left=0 then ({ d with dead:=true },9) else (d.tick.done fun _=>512,0):=by
 have ha:d.asked 0 512=0:=by
  unfold asked;rw [hd];simp only [Bool.false_eq_true,if_false];rw [if_neg (by omega)]
 unfold sync
 rw [ha,Nj]
 split <;> simp
end Af
namespace Ad
theorem put_any (l:Ad) (S:BitVec 64) (hS:l.stamp=S) (of':Nat) (b:List UInt8):∀ (k i:Nat) (d:Af),d.dead=false→l.first+l.end'+i+k ≤ d.pages.length →
  ∃ m d',m ≤ k∧put l of' b k i d=(d',if m=k then 0 else 9)∧d'.pages=d.pages∧d'.row=d.row++((List.range m).map fun t=>(l.first+l.end'+i+t,AA.page ⟨S,i+t,of',part b (i+t)⟩)) ∧
   d'.dead=decide (m<k)∧(d.left<0→m=k∧d'.left=d.left)∧(0 ≤ d.left→0 ≤ d'.left∧d'.left ≤ d.left)
 | 0,i,d,hd,hr=>⟨0,d,Nat.le_refl _,rfl,rfl,by simp,by simpa using hd,fun _=>⟨rfl,rfl⟩,fun h=>⟨h,Int.le_refl _⟩⟩
 | k+1,i,d,hd,hr=>by
  have hw:=Af.Zt hd (j:=l.first+l.end'+i) (by omega) (l:=AA.page ⟨l.stamp,i,of',part b i⟩) (AA.ES (CX _ _))
  unfold put
  simp only [hw]
  by_cases h0:d.left=0
  ·rw [if_pos h0]
   refine ⟨0,{ d with dead:=true },by omega,by rw [if_pos (show ((9:Int) ≠ 0) from by omega),if_neg (by omega)],rfl,by simp,by simp,fun h=>by omega,fun _=>⟨by show 0 ≤ d.left;omega,Int.le_refl _⟩⟩
  ·rw [if_neg h0]
   rw [if_neg (by simp)]
   obtain ⟨t1,t2,t3⟩:=Af.ND d
   obtain ⟨u1,u2⟩:=Af.Rl d
   obtain ⟨m,d',q1,q2,q3,q4,q5,q6,q7⟩:=put_any l S hS of' b k (i+1) { d.tick with row:=d.row++[(l.first+l.end'+i,AA.page ⟨l.stamp,i,of',part b i⟩)] } (by show d.tick.dead=false;rw [t3];exact hd) (by show _ ≤ d.tick.pages.length;rw [t1];omega)
   refine ⟨m+1,d',by omega, ?_,q3.trans t1, ?_, ?_, ?_, ?_⟩
   ·rw [q2]
    by_cases hm:m=k
    ·rw [if_pos hm,if_pos (by omega)]
    ·rw [if_neg hm,if_neg (by omega)]
   ·rw [q4]
    show (d.row++_)++_=_
    rw [List.append_assoc,List.range_succ_eq_map,List.map_cons,List.map_map,hS]
    congr 1
    simp only [List.singleton_append,Nat.add_zero]
    congr 1
    apply List.map_congr_left
    intro t _
    simp only [Function.comp,Nat.succ_eq_add_one]
    rw [show i+1+t=i+(t+1) from by omega,show l.first+l.end'+(i+1)+t=l.first+l.end'+i+(t+1) from by omega]
   ·rw [q5];simp
   ·intro h
    obtain ⟨a,b⟩:=q6 (by show d.tick.left<0;rw [u1 h];exact h)
    exact ⟨by omega,b.trans (u1 h)⟩
   ·intro h
    have hx:=u2 (by omega)
    obtain ⟨a,b⟩:=q7 (by show 0 ≤ d.tick.left;omega)
    change d'.left ≤ d.tick.left at b
    exact ⟨a,by omega⟩
def Fp (pages:List (List UInt8)) (e:Nat) (S:BitVec 64) (b:List UInt8):List (List UInt8):=
 (List.range pages.length).map fun j=>if e ≤ j∧j<e+many b then AA.page ⟨S,j - e,many b,part b (j - e)⟩ else pages.getD j []
def Eh (pages:List (List UInt8)) (S:BitVec 64):List (List UInt8):=pages.set 0 (AA.page ⟨S,0,0,[]⟩)
theorem JD (pages:List (List UInt8)) (e:Nat) (S:BitVec 64) (b:List UInt8):(Fp pages e S b).length=pages.length:=by simp [Fp]
theorem IP (pages:List (List UInt8)) (S:BitVec 64):(Eh pages S).length=pages.length:=by simp [Eh]
theorem FZ (pages:List (List UInt8)) (e:Nat) (S:BitVec 64) (b:List UInt8) (j:Nat):(Fp pages e S b)[j]?=if j<pages.length then (if e ≤ j∧j<e+many b then some (AA.page ⟨S,j - e,many b,part b (j - e)⟩) else pages[j]?) else none:=by
 unfold Fp
 rw [List.getElem?_map]
 by_cases hj:j<pages.length
 ·rw [List.getElem?_range hj,if_pos hj]
  simp only [Option.map_some]
  split
  ·rfl
  ·rw [List.getD_eq_getElem?_getD,List.getElem?_eq_getElem hj];rfl
 ·rw [List.getElem?_eq_none (by simp;omega),if_neg hj];rfl
theorem Bq (d:Af) (f n:Nat):(Aw d f n).length=n:=by simp [Aw]
theorem Cc (d:Af) (f n j:Nat) (hj:j<n):(Aw d f n)[j]?=some (d.seen (f+j)):=by
 simp [Aw,hj]
theorem Gx {d:Af} {f n:Nat} {l:List (List UInt8)} (hl:l.length=n) (h:∀ j,j<n→l[j]?=some (d.seen (f+j))):Aw d f n=l:=by
 apply List.ext_getElem?
 intro j
 by_cases hj:j<n
 ·rw [Cc _ _ _ _ hj,h j hj]
 ·rw [List.getElem?_eq_none (by rw [Bq];omega),List.getElem?_eq_none (by omega)]
def Fine (s:Ad × Af):Prop:=s.1=AY s.1.first (Aw s.2 s.1.first s.1.n)∧s.1.first+s.1.n ≤ s.2.pages.length∧2 ≤ s.1.n∧s.2.wf
theorem fQ (f:Nat) (pages:List (List UInt8)) (h1:1 ≤ pages.length):1 ≤ (AY f pages).end'∧(AY f pages).end' ≤ pages.length:=by
 show 1 ≤ (if Di (Ah pages) then (readAll (Ah pages)).1 else 1)∧(if Di (Ah pages) then (readAll (Ah pages)).1 else 1) ≤ _
 split
 ·rename_i hh
  have hl1:=PW hh
  have hle:=(Gq (Ah pages) (Ah pages).length (1,AaJ (Ah pages),[])).2 hl1
  have hge:=(Gq (Ah pages) (Ah pages).length (1,AaJ (Ah pages),[])).1
  have:(Ah pages).length ≤ pages.length:=by
   unfold Ah;rw [List.length_map];exact (List.takeWhile_sublist _).length_le
  exact ⟨hge,Nat.le_trans hle this⟩
 ·omega
theorem XQ {x:AA} (h:x.bytes.length ≤ 480):num (x.page.take 8)=x.stamp∧num (x.page.drop 504)=x.stamp:=by
 obtain ⟨e1,_,_,_,_,e2⟩:=AA.Hy x h
 rw [e1,e2,Tt];exact ⟨rfl,rfl⟩
theorem Xc {pages:List (List UInt8)} {e:Nat} {S:BitVec 64} {b:List UInt8} (hS:(newest pages).toNat ≤ S.toNat) (he:e+many b ≤ pages.length):newest (Fp pages e S b)=S:=by
 apply BitVec.eq_of_toNat_eq
 apply Nat.le_antisymm
 ·rw [Aen]
  intro p hp
  obtain ⟨j,hj⟩:=List.mem_iff_getElem?.1 hp
  rw [FZ] at hj
  split at hj
  ·split at hj
   ·simp only [Option.some.injEq] at hj
    subst hj
    obtain ⟨a,c⟩:=XQ (x:=⟨S,j - e,many b,part b (j - e)⟩) (CX _ _)
    rw [a,c];exact ⟨Nat.le_refl _,Nat.le_refl _⟩
   ·have:=Fe (List.mem_of_getElem? hj);omega
  ·cases hj
 ·have hk:=Ko b
  have hm:AA.page ⟨S,0,many b,part b 0⟩ ∈ Fp pages e S b:=by
   apply List.mem_of_getElem? (i:=e)
   rw [FZ,if_pos (by omega),if_pos (by omega),Nat.sub_self]
  have:=(Fe hm).1
  rw [(XQ (x:=⟨S,0,many b,part b 0⟩) (CX _ _)).1] at this
  exact this
theorem Vj {pages:List (List UInt8)} {S:BitVec 64} (hS:(newest pages).toNat ≤ S.toNat) (h1:1 ≤ pages.length):newest (Eh pages S)=S:=by
 apply BitVec.eq_of_toNat_eq
 apply Nat.le_antisymm
 ·rw [Aen]
  intro p hp
  rcases List.mem_or_eq_of_mem_set hp with hp | rfl
  ·have:=Fe hp;omega
  ·obtain ⟨a,c⟩:=XQ (x:=⟨S,0,0,[]⟩) (by simp)
   rw [a,c];exact ⟨Nat.le_refl _,Nat.le_refl _⟩
 ·have hm:AA.page ⟨S,0,0,[]⟩ ∈ Eh pages S:=by
   apply List.mem_of_getElem? (i:=0)
   rw [Eh,List.getElem?_set_self (by omega)]
  have:=(Fe hm).1
  rw [(XQ (x:=⟨S,0,0,[]⟩) (by simp)).1] at this
  exact this
theorem Tn {f:Nat} {pages:List (List UInt8)} {S:BitVec 64} (hS:(newest pages).toNat<S.toNat) (h1:1 ≤ pages.length) :
  AY f (Eh pages S)={ first:=f,n:=pages.length,stamp:=S,Dx:=true,end':=1,records:=[],dead:=false }:=by
 obtain ⟨a,b⟩:=(MB (pages:=pages) (Aat:=Eh pages S) hS (fun j hj=>by rw [Eh,List.getElem?_set_ne (by omega)]) (.inr (.inl (by rw [Eh,List.getElem?_set_self (by omega)])))).1 (by rw [Eh,List.getElem?_set_self (by omega)])
 unfold AY
 simp only [a,b,if_true,Vj (Nat.le_of_lt hS) h1,IP]
theorem Vd {f:Nat} {pages:List (List UInt8)} {S:BitVec 64} {b:List UInt8} (hh:(AY f pages).Dx=true) (hS:(newest pages).toNat<S.toNat) (hk:many b<65536) (he:(AY f pages).end'+many b ≤ pages.length) :
  AY f (Fp pages (AY f pages).end' S b)={ first:=f,n:=pages.length,stamp:=S,Dx:=true,end':=(AY f pages).end'+many b,records:=(AY f pages).records++[b],dead:=false }:=by
 have hh':Di (Ah pages)=true:=hh
 have hee:(AY f pages).end'=(readAll (Ah pages)).1:=by show (if Di (Ah pages) then _ else _)=_;rw [if_pos hh']
 have hrr:(AY f pages).records=(readAll (Ah pages)).2.2:=by show (if Di (Ah pages) then _ else _)=_;rw [if_pos hh']
 rw [hrr]
 rw [hee] at he ⊢
 have hall:∀ i,i<many b→(Fp pages (readAll (Ah pages)).1 S b)[(readAll (Ah pages)).1+i]?=some (AA.page ⟨S,i,many b,part b i⟩):=fun i hi=>by
  rw [FZ,if_pos (by omega),if_pos (by omega),Nat.add_sub_cancel_left]
 obtain ⟨a,c⟩:=Oj (pages:=pages) (Aat:=Fp pages (readAll (Ah pages)).1 S b) (b:=b) hh' hS hk
  (fun j hj=>by
   rw [FZ]
   split
   ·rw [if_neg (by omega)]
   ·rw [List.getElem?_eq_none (by omega)])
  (fun i hi=>⟨_,hall i hi, .inr (.inl rfl)⟩)
 rcases c with ⟨_,c⟩ | ⟨c1,c2⟩
 ·exact (c hall).elim
 ·unfold AY
  simp only [a,c1,c2,if_true,Xc (Nat.le_of_lt hS) he,JD]
end Ad
theorem fM:(prog.info? 238).map (fun i=>(i.zero.map (fun z=>z.cells.toList),i.size,i.bytes))=some (some [.int .u64 0, .int .i64 0, .int .i64 0, .slice none 0 0],4,48):=by kernel_rfl
def GH:List AA→List Value→List Value
 | x :: ls,bv :: bvs=>BQ x bv++GH ls bvs
 | _,_=>[]
theorem MP (x:AA) (bv:Value):∀ (ls:List AA) (bvs:List Value),bvs.length=ls.length→GH (ls++[x]) (bvs++[bv])=GH ls bvs++BQ x bv
 | [],[],_=>by simp [GH]
 | [],_ :: _,h=>by simp at h
 | _ :: _,[],h=>by simp at h
 | y :: ls,b :: bvs,h=>by simp only [List.cons_append,GH,List.append_assoc];rw [MP x bv ls bvs (by simpa using h)]
theorem Oy:∀ (ls:List AA) (bvs:List Value) (i:Nat) (x:AA) (bv:Value) (j:Nat) (v:Value),ls[i]?=some x→bvs[i]?=some bv→(BQ x bv)[j]?=some v→(GH ls bvs)[i*4+j]?=some v
 | [],_,_,_,_,_,_,h,_,_=>by simp at h
 | _ :: _,[],_,_,_,_,_,_,h,_=>by simp at h
 | y :: ls,b :: bvs,0,x,bv,j,v,h1,h2,h3=>by
  simp only [List.getElem?_cons_zero,Option.some.injEq] at h1 h2
  subst h1;subst h2
  simp only [GH,Nat.zero_mul,Nat.zero_add]
  rw [List.getElem?_append_left (List.getElem?_eq_some_iff.1 h3).1];exact h3
 | y :: ls,b :: bvs,i+1,x,bv,j,v,h1,h2,h3=>by
  simp only [List.getElem?_cons_succ] at h1 h2
  simp only [GH]
  rw [List.getElem?_append_right (by simp [BQ];omega)]
  rw [show (i+1)*4+j - (BQ y b).length=i*4+j from by simp [BQ];omega]
  exact Oy ls bvs i x bv j v h1 h2 h3
def Gl (W:World) (o:Own) (X base:Nat) (v:Value) (ls:List AA):Prop:=
 ∃ bvs,W.ownsRow base 238 4 v ls.length (GH ls bvs)∧Ey W o bvs (ls.map AA.bytes)∧∀ k,v.ownBlock=some k→o k=(X,2)
theorem Gl.nil (W:World) (o:Own) (X base:Nat):Gl W o X base (.slice none 0 0) []:=
 ⟨[],by simpa [GH] using World.ownsRow_nil _ _ _ _,Ey.nil _ _,fun k hk=>by simp [Value.ownBlock] at hk⟩
theorem Gl.form {W:World} {o:Own} {X base:Nat} {v:Value} {ls:List AA} (h:Gl W o X base v ls):∃ a c,v = .slice a ls.length c:=by
 obtain ⟨bvs,h1, -⟩:=h;exact BA h1
theorem Gl.step {W W':World} {o o':Own} {X base:Nat} {v:Value} {ls:List AA} {T:Nat→Prop} (h:Gl W o X base v ls) (s:Step T W o W' o') (hX:¬ T X) (h0:¬ T 0):Gl W' o' X base v ls:=by
 obtain ⟨bvs,h1,h2,h3⟩:=h
 refine ⟨bvs,⟨h1.1, ?_⟩,h2.step s h0,fun k hk => ?_⟩
 ·rcases h1.2 with hn | ⟨g,cap,cur,hv,hb,hc,rest⟩
  ·exact .inl hn
  ·refine .inr ⟨g,cap,cur,hv,hb, ?_,rest⟩
   rw [s.block g (lt_of_block hc) (by rw [h3 g (by rw [hv];rfl)];exact hX)];exact hc
 ·rw [s.own k (h1.lt k hk).2];exact h3 k hk
theorem Gl.set {W:World} {o:Own} {X base:Nat} {v:Value} {ls:List AA} (h:Gl W o X base v ls) (hX:X ≠ 0) (a:Addr) (u:Value) (ha:o a.block ≠ (X,2)) (ha1:(o a.block).1=X):Gl (W.setCell a u) o X base v ls:=by
 obtain ⟨bvs,h1,h2,h3⟩:=h
 have hs:=(Step.refl (Only X) W o).setCell (a:=a) u (.inl ha1)
 refine ⟨bvs,⟨h1.1, ?_⟩,h2.step hs (fun h=>hX h.symm),h3⟩
 rcases h1.2 with hn | ⟨g,cap,cur,hv,hb,hc,rest⟩
 ·exact .inl hn
 ·refine .inr ⟨g,cap,cur,hv,hb, ?_,rest⟩
  rw [Below.heap_setCell _ _ _ _ (by rintro rfl;exact ha (h3 _ (by rw [hv];rfl)))];exact hc
theorem Gl.append {W:World} {o:Own} {X base:Nat} {v:Value} {ls:List AA} (h:Gl W o X base v ls) (hbase:base ≤ W.heap.size) (hX:X ≠ 0) (hn:ls.length ≤ 100000) {nb:Nat} {x:AA} {bv:Value}
  (hnb:W.heap[nb]?=some (.cells (BQ x bv).toArray 238 (0,0))) (hb:Bytes W o bv x.bytes) :
  ∃ v' w' o',(Builtin.append_ #[234,234] 234 #[v, .slice (some ⟨nb,0,none⟩) 1 1]).run prog W = .ok v' w'∧Gl w' o' X base v' (ls++[x])∧Step (Only X) W o w' o'∧(∀ k,v.ownBlock ≠ some k→k<W.heap.size→w'.heap[k]?=W.heap[k]?):=by
 obtain ⟨bvs,h1,h2,h3⟩:=h
 obtain ⟨g,cap,w',hrun,hown,hgrow,hat,hlt⟩:=DD (P:=prog) W 234 234 238 underlying234 fM rfl (by omega) hbase v ls.length _ h1 nb 0 1 1 (BQ x bv) rfl (AV hnb)
  (by have:=IK hb;intro u hu;exact List.all_eq_true.1 this u hu) (by omega) (by omega) (by omega)
 have hgt:o g=(X,2) ∨ W.heap.size ≤ g:=by
  rcases hat with hat | hat
  ·exact .inl (h3 g hat)
  ·exact .inr (by omega)
 have hs:Step (Only X) W o w' (Ak o g (X,2)):=(Step.refl (Only X) W o).grown hgrow (fun k hk => .inl (by rw [h3 k hk];rfl)) g (X,2) hgt
 refine ⟨_,w',_,hrun,⟨bvs++[bv], ?_, ?_, ?_⟩,hs,fun k hk hlt=>hgrow.block k hlt (fun h=>hk h.symm)⟩
 ·rw [MP _ _ _ _ (by have:=h2.1;simpa using this)];simpa using hown
 ·rw [List.map_append]
  exact (h2.step hs (fun h=>hX h.symm)).snoc (hb.step hs (fun h=>hX h.symm))
 ·intro k hk
  simp only [Value.ownBlock,Option.some.injEq] at hk
  subst hk;exact Au _ _ _
theorem Gl.lvs {W:World} {o:Own} {X base:Nat} {v:Value} {ls:List AA} (h:Gl W o X base v ls) (hX:X ≠ 0) (m:Nat) (h1m:1 ≤ m) (hm:m ≤ ls.length) :
  ∃ g cap,v = .slice (some ⟨g,0,none⟩) ls.length cap∧ls.length ≤ cap∧cap ≤ maxLen∧base ≤ g∧o g=(X,2)∧(∃ cs,W.heap[g]?=some (.cells cs 238 (0,0)))∧Qy W (Ak o g (0,0)) (.slice (some ⟨g,0,none⟩) m cap) (ls.take m):=by
 obtain ⟨bvs,h1,h2,h3⟩:=h
 rcases h1.2 with ⟨_,h0⟩ | ⟨g,cap,cur,rfl,hb,hc,h4,h5,h6,h7⟩
 ·omega
 ·have hgl:=lt_of_block hc
  have hne:∀ (k:Nat),(o k).1=0→k ≠ g:=fun k hk e=>by rw [e,h3 g rfl] at hk;exact hX hk
  have hlen:bvs.length=ls.length:=by have:=h2.1;simpa using this
  refine ⟨g,cap,rfl,h4,h5,hb,h3 g rfl,⟨cur,hc⟩,g,0,cap,bvs.take m,by rw [List.length_take,Nat.min_eq_left hm],by rw [List.length_take];omega,h5,by rw [Au],hgl, ?_, ?_⟩
  ·have hs:Step Nobody W o W (Ak o g (0,0))→True:=fun _=>trivial
   refine ⟨by simp [hlen],fun i v l hv hl => ?_⟩
   have hv':bvs[i]?=some v:=by rw [List.getElem?_take] at hv;split at hv;exact hv;cases hv
   have hl':(ls.map AA.bytes)[i]?=some l:=by rw [List.map_take,List.getElem?_take] at hl;split at hl;exact hl;cases hl
   rcases h2.2 i v l hv' hl' with hq | ⟨b,off,cap',q1,q2,q3,q4,q5,q6⟩
   ·exact .inl hq
   ·exact .inr ⟨b,off,cap',q1,q2,q3,by rw [BI _ _ (hne b q4)];exact q4,q5,q6⟩
  ·intro i x bv hx hbv j u hu
   have hx':ls[i]?=some x:=by rw [List.getElem?_take] at hx;split at hx;exact hx;cases hx
   have AzV:bvs[i]?=some bv:=by rw [List.getElem?_take] at hbv;split at hbv;exact hbv;cases hbv
   have h8:=Oy ls bvs i x bv j u hx' AzV hu
   rw [←h7,List.getElem?_take] at h8
   split at h8
   ·rw [Nat.zero_add]
    rw [cell_of_block (cs:=cur.toList) (E:=238) (fr:=(0,0)) (by simpa using hc)];exact h8
   ·cases h8
section
variable {w:World} {o:Own} {L D pd:Nat} {d:Af}
theorem fZ (h:Bg w o D pd d) (hd:d.dead=true) (first n:Int) :
  Calls prog 121 #[.pointer (some ⟨pd,0,none⟩), .int .i64 first, .int .i64 n] w fun e w'=>e = .returned (.tuple #[.pointer none, .int .i64 9])∧w=w':=by
 have hdd:=Ic h
 rw [hd] at hdd
 clear hd
 go_enter func121,ntmps121
 go_wp2_with fail
 refine hdd.mono ?_;rintro e w' ⟨rfl,rfl⟩
 go_wp2_with fail
 go_ret2
 exact ⟨rfl,rfl⟩
def Ad.raw (f n:Nat) (S:BitVec 64):Ad:=⟨f,n,S,false,1,[],false⟩
theorem Ad.Vg (ps:List (List UInt8)) (k:Nat) (p:List UInt8) (h:ps[k]?=some p):Ad.newest (ps.take (k+1))=Ad.KX (Ad.KX (Ad.newest (ps.take k)) (num (p.take 8))) (num (p.drop 504)):=by
 rw [List.take_add_one,h]
 simp only [Ad.newest,Option.toList_some,List.foldl_append,List.foldl_cons,List.foldl_nil]
theorem Sr {α:Type} (p:α→Bool) (l:List α) (k:Nat) (x:α) (h:l[k]?=some x) (hk:k ≤ (l.takeWhile p).length):p x=true ↔ k<(l.takeWhile p).length:=by
 constructor
 ·intro hx
  rw [Ad.FX]
  intro i hi
  by_cases hik:i=k
  ·subst hik;exact ⟨x,h,hx⟩
  ·exact (Ad.FX p l i).1 (by omega) i (Nat.le_refl _)
 ·intro hl
  obtain ⟨y,hy,hp⟩:=(Ad.FX p l k).1 hl k (Nat.le_refl _)
  rw [h] at hy;cases hy;exact hp
def Opened (w w':World) (o':Own) (L pd f:Nat) (ps:List (List UInt8)) (v:Value):Prop:=
 (Ad.newest ps=BitVec.allOnes 64→v = .tuple #[.pointer none, .int .i64 2]) ∧
 (Ad.newest ps ≠ BitVec.allOnes 64→∃ p,w.heap.size ≤ p∧v = .tuple #[.pointer (some ⟨p,0,none⟩), .int .i64 0]∧BZ w' o' L p pd (Ad.AY f ps))
theorem gB:(prog.info? 238).map (fun i=>(i.zero.map (fun z=>z.cells.toList),i.size))=some (some [.int .u64 0, .int .i64 0, .int .i64 0, .slice none 0 0],4):=by kernel_rfl
theorem QV (w:World) (x:AA) (bv:Value) (_h1:(BQ x bv).all (·.oneCell')=true) :
  (Instr.buildSlice 234 1 #[(0, .agg (BQ x bv).toArray)]).run prog w = .ok (.slice (some ⟨w.heap.size,0,none⟩) 1 1) (w.alloc (.cells (BQ x bv).toArray 238)):=
 Dv w 234 238 _ (.agg (BQ x bv).toArray) (BQ x bv) underlying234 gB rfl (by simp [BQ]) (by simp [BQ]) rfl
theorem Yc (S A B:BitVec 64):(if (if S.toNat<A.toNat then (A.toNat:Int) else (S.toNat:Int))<(B.toNat:Int) then (B.toNat:Int) else if S.toNat<A.toNat then (A.toNat:Int) else (S.toNat:Int))=((Ad.KX (Ad.KX S A) B).toNat:Int):=by
 rw [Ad.Jc,Ad.Jc]
 split <;> split <;> omega
theorem UZ (hL:L ≠ 0) (_hD:D ≠ 0) (hLD:L ≠ D) (h:Bg w o D pd d) (hrow:d.row.length ≤ 1000000) (hd:d.dead=false) (f n:Nat) (h2n:2 ≤ n) (hn:n ≤ 2000) (hf:f+n ≤ d.pages.length) :
  Calls prog 121 #[.pointer (some ⟨pd,0,none⟩), .int .i64 (f:Int), .int .i64 (n:Int)] w (XL (Only L) w o fun v w' o' =>
   Opened w w' o' L pd f (Ad.Aw d f n) v):=by
 have hN:¬ Only L 0:=fun h=>hL h.symm
 have hND:¬ Only L D:=fun h=>hLD h.symm
 have hdd:=Ic h
 rw [hd] at hdd
 have hsz:=size_any h
 obtain ⟨ps,hps⟩:∃ ps,Ad.Aw d f n=ps:=⟨_,rfl⟩
 have hpl:ps.length=n:=by rw [←hps];exact Ad.Bq _ _ _
 have hpg:∀ k,k<n→ps[k]?=some (d.seen (f+k)):=fun k hk=>by rw [←hps];exact Ad.Cc _ _ _ _ hk
 have hwf:=h.wf
 have Abr:d.pages.length ≤ 4096:=hwf.2.1
 have Amt:∀ k,k<n→d.asked ((f+k:Nat):Int) 512=0:=fun k hk=>by
  unfold Af.asked;rw [hd,if_neg (by simp),if_neg (by omega)]
 rw [hps]
 have hA1:¬ (n:Int)<2:=by omega
 have hA2:¬ (f:Int)<0:=by omega
 have hA3:¬ (d.pages.length:Int) - (n:Int)<(f:Int):=by omega
 have hA4:IntKind.i64.wrap ((d.pages.length:Int) - (n:Int))=(d.pages.length:Int) - (n:Int):=wrap_i64 (by omega) (by omega)
 have hbox:BZ (w.alloc (.cells ((Ad.raw f n 0).cells pd (.slice none 0 0)).toArray 233)) (Ak o w.heap.size (L,0)) L w.heap.size pd (Ad.raw f n 0):=
  ⟨.slice none 0 0,[],heap_alloc_new w _,World.ownsRow_nil _ _ _ _,JG.nil _ _,Au _ _ _,fun k hk=>by simp [Value.ownBlock] at hk,
   ⟨by show f ≤ 4096;omega,h2n,hn,Nat.le_refl _,by show 1 ≤ n;omega,by show 0+1 ≤ 1;omega,fun r hr=>by simp [Ad.raw] at hr⟩⟩
 have hsb:Step (Only L) w o _ _:=(Step.refl (Only L) w o).alloc (.cells ((Ad.raw f n 0).cells pd (.slice none 0 0)).toArray 233) (L,0)
 obtain ⟨t,ht⟩:∃ t,(ps.takeWhile fun p=>(CE p).2).length=t:=⟨_,rfl⟩
 have htn:t ≤ n:=by rw [←ht, ←hpl];exact List.Sublist.length_le (List.takeWhile_sublist _)
 have htk:∀ k,k<n→k ≤ t→((CE (d.seen (f+k))).2=true ↔ k<t):=fun k hk hkt=>by
  rw [←ht] at hkt ⊢
  exact Sr _ ps k _ (hpg k hk) hkt
 have hsn:∀ k,k<n→Ad.newest (ps.take (k+1))=Ad.KX (Ad.KX (Ad.newest (ps.take k)) (num ((d.seen (f+k)).take 8))) (num ((d.seen (f+k)).drop 504)):=fun k hk=>Ad.Vg ps k _ (hpg k hk)
 have Ake:∀ k,k<n→(ps.take (k+1))=ps.take k++[d.seen (f+k)]:=fun k hk=>by rw [List.take_add_one,hpg k hk];rfl
 have Bfg:=hidden hps
 have zA:=hidden hpl
 have Abt:=hidden hpg
 have Aoe:=hidden Amt
 have Akd:=hidden htk
 have uZ:=hidden hsn
 have Ato:=hidden Ake
 have nD:=hidden ht
 have hh:=hidden h
 clear hps hpl hpg Amt htk hsn Ake ht hwf h
 go_enter func121,ntmps121
 go_wp2_with fail
 refine hdd.mono ?_;rintro e w' ⟨rfl,rfl⟩
 go_wp2_with fail
 refine hsz.mono ?_;rintro e w' ⟨rfl,rfl⟩
 clear hdd hsz
 go_wp2_with fail
 clear hA1 hA2 hA3 hA4
 have hc0:(Ad.raw f n 0).cells pd (.slice none 0 0)=[.pointer (some ⟨pd,0,none⟩), .int .i64 (f:Int), .int .i64 (n:Int), .int .u64 0, .bool false, .int .i64 1, .slice none 0 0, .bool false]:=rfl
 rw [hc0] at hbox hsb
 clear hc0
 obtain ⟨p,hp⟩:∃ p,w.heap.size=p:=⟨_,rfl⟩
 rw [hp] at hbox hsb ⊢
 go_loopw [9,10,44] (fun lv en i wr=>∃ (k E:Nat) (o':Own),k ≤ n∧i = .int .i64 k∧en = .int .i64 (E:Int)∧Hid (E=if t<k then t else n)∧Step (Only L) w o wr o'∧BZ wr o' L p pd (Ad.raw f n (Ad.newest (ps.take k)))∧Gl wr o' L p lv ((ps.take k).map fun p=>(CE p).1))
  (fun _ _ i _=>n - (intOf i).toNat)
 case atStart=>exact ⟨0,n,_,Nat.zero_le _,rfl,rfl,hidden (by simp),hsb,hbox,Gl.nil _ _ _ _⟩
 case round =>
  obtain ⟨k,E,o1,hk,rfl,rfl,hE,hst,pK,hlv⟩:=hrel
  by_cases hlt:k<n
  ·have hd1:=hh.out.step hst hND
   have hrd:=aA hd1 ((f+k:Nat):Int) (Aoe.out k hlt) hrow
   have Bfn:(k:Int)<(n:Int):=by omega
   rw [show (((f+k:Nat):Int)).toNat=f+k from by omega,show ((f+k:Nat):Int)=(f:Int)+(k:Int) from by omega] at hrd
   have qW:(d.seen (f+k)).length=512:=by
    obtain ⟨hw1,hw2,hw3,hw4, -, -⟩:=hh.out.wf
    have:∀ (row:List (Nat × List UInt8)) (q:List UInt8),q.length=512→(∀ x ∈ row,x.2.length=512)→(Af.seenIn (f+k) q row).length=512:=by
     intro row
     induction row with
     | nil=>intro q hq _;exact hq
     | cons x r ih =>
      intro q hq hx
      refine ih _ ?_ (fun y hy=>hx y (by simp [hy]))
      dsimp only
      split
      ·exact hx x (by simp)
      ·exact hq
    exact this _ _ (Af.OX hw3 (by omega)) (fun x hx=>(hw4 x hx).2)
   have htk:=Akd.out k hlt
   have hsn:=uZ.out k hlt
   have Ake:=Ato.out k hlt
   obtain ⟨P,hP⟩:∃ P,d.seen (f+k)=P:=⟨_,rfl⟩
   rw [hP] at hrd qW htk hsn Ake
   obtain ⟨S,hS⟩:∃ S,Ad.newest (ps.take k)=S:=⟨_,rfl⟩
   rw [hS] at pK hsn
   obtain ⟨ls,hls⟩:∃ ls,((ps.take k).map fun p=>(CE p).1)=ls:=⟨_,rfl⟩
   have Auz:((ps.take (k+1)).map fun p=>(CE p).1)=ls++[(CE P).1]:=by rw [Ake,List.map_append,hls];rfl
   have AqC:ls.length=k:=by rw [←hls,List.length_map,List.length_take,zA.out];omega
   rw [hls] at hlv
   obtain ⟨la,lc,rfl⟩:=hlv.form
   rw [AqC] at hlv ⊢
   have Akd:=hidden htk
   have uZ:=hidden hsn
   have Auy:=hidden Auz
   have AuA:=hidden AqC
   clear htk hsn Auz hls AqC Ake hS hP hd1
   go_wp2_with fail
   refine hrd.mono ?_;rintro e W1 ⟨v1,o2,rfl,hs1,b,rfl,hb1,hh1,ho1⟩
   have hst1:=hst.trans (hs1.only L)
   have AbC:=pK.step hs1 id id
   have hlv1:=hlv.step hs1 id id
   have hpb:Bytes W1 o2 (.slice (some ⟨b,0,none⟩) 512 512) P := .inr ⟨b,0,512,by rw [qW],by omega,by simp [maxLen],by rw [ho1],lt_of_block hh1,AV hh1⟩
   have hdr:Step Nobody W1 o2 W1.drew o2:=(Step.refl _ _ _).drew
   have hst2:=hst1.trans (hdr.only L)
   have Adf:=AbC.step hdr id id
   have hlv2:=hlv1.step hdr id id
   have zC:=hpb.step hdr id
   have hq1:=zC.part 0 8 (by omega) (by omega)
   have hq2:=zC.part 504 512 (by omega) (by omega)
   simp only [List.drop_zero,Nat.zero_add,Nat.sub_zero,Nat.reduceSub] at hq1 hq2
   rw [List.take_of_length_le (i:=8) (l:=P.drop 504) (by simp;omega)] at hq2
   have vY:=Adf.held
   obtain ⟨-, -, -,d3, -, -, -⟩:=vY
   simp only [Ad.raw] at d3
   clear hrd hst pK hlv hs1 hst1 AbC hlv1 hpb hdr
   go_wp2_with fail
   have f3:W1.drew.frozen? ⟨p,3,none⟩=false:=by obtain ⟨_,_,_,hf, -⟩:=Adf.open;exact hf 3
   have hn1:=FK hq1 (by simp;omega)
   have hn2:=FK hq2 (by simp;omega)
   clear hq1 hq2
   obtain ⟨A,hA⟩:∃ A,num (P.take 8)=A:=⟨_,rfl⟩
   obtain ⟨B,hB⟩:∃ B,num (P.drop 504)=B:=⟨_,rfl⟩
   rw [hA] at hn1
   rw [hB] at hn2
   have hsn:=uZ.out
   rw [hA,hB] at hsn
   have uZ:=hidden hsn
   clear hsn hA hB
   refine JH (fun i w'=>i<17 ∨ 18 ≤ i→w'.cell? ⟨p,3,none⟩=some (.int .u64 (S.toNat:Int))) (by kernel_rfl) ?_
   refine tT 0 (h:=tT 1 (h:=tT 2 (h:=tT 3 (h:=?_))))
   refine tG 4 (hN:=by exact fun j w hd h=>h (Nh (lo:=17) (hi:=18) (by kernel_rfl) j hd)) (h:=?_)
   refine tT 5 (h:=tT 6 (h:=tT 8 (h:=tT 9 (h:=tT 10 (h:=tT 11 (h:=?_))))))
   rw [wrap_i64 (n:=504) (by omega) (by omega)]
   refine tT 12 (h:=?_)
   refine BX (i:=7) rfl (by kernel_rfl) ?_
   go_wp2_with fail
   refine hn1.mono ?_;rintro e w' ⟨rfl,rfl⟩
   go_wp2_with fail
   refine ⟨.inl trivial, ?_⟩
   refine BX (i:=13) rfl (by kernel_rfl) ?_
   go_wp2_with fail
   refine hn2.mono ?_;rintro e w' ⟨rfl,rfl⟩
   go_wp2_with fail
   refine ⟨.inl trivial, ?_⟩
   refine AO (i:=14) (St:=(fun _=>True)) (v := .int .u64 ((Ad.KX (Ad.KX S A) B).toNat:Int)) rfl (by kernel_rfl) (by kernel_rfl) (by kernel_rfl) (fun _ _ _ _=>trivial) (fun _ _ _ h=>h) (Or.inl ⟨by rfl, ?_⟩) (trivial) ?_
   ·intro w hSw;(try dsimp only at hSw);go_simp;exact Yc S A B
   simp only [Act.put,GL,DL,lss]
   refine tT 15 (h:=tT 16 (h:=?_))
   refine BX (i:=17) rfl (by kernel_rfl) ?_
   go_wp2_with fail
   refine ⟨.inr (fun h=>by rcases h with h | h <;> omega), ?_⟩
   refine JI (by kernel_rfl) ?_ _
   clear hn1 hn2
   obtain ⟨M,hM⟩:∃ M,Ad.KX (Ad.KX S A) B=M:=⟨_,rfl⟩
   rw [hM]
   have hWc:(W1.setCell ⟨p,3,none⟩ (.int .u64 (M.toNat:Int))).drew=W1.drew.setCell ⟨p,3,none⟩ (.int .u64 (M.toNat:Int)):=rfl
   rw [hWc]
   have hop:o2 p=(L,0):=by obtain ⟨_,_,_,_,_,h,_⟩:=Adf;exact h
   have hse:=Adf.DC 3 (.int .u64 (M.toNat:Int))
   have AuF:=Adf.set (m':=Ad.raw f n M) hL 3 (.int .u64 (M.toNat:Int)) (fun rv=>rfl) rfl Adf.wf
   have hst3:=hst2.trans hse
   have hlv3:=hlv2.set hL ⟨p,3,none⟩ (.int .u64 (M.toNat:Int)) (by rw [hop];simp) (by rw [hop])
   have Aua:=zC.step hse hN
   have AyR:Hid (Ad.newest (ps.take (k+1))=M):=hidden (by rw [uZ.out,hM])
   clear hM hWc hse Adf hst2 hlv2 zC d3 f3 uZ hh1 hb1 ho1
   generalize W1.drew.setCell ⟨p,3,none⟩ (.int .u64 (M.toNat:Int))=W2 at *
   have hsd:=ZR Aua qW
   obtain ⟨x,okb,hx⟩:∃ x okb,CE P=(x,okb):=⟨_,_,rfl⟩
   rw [hx] at hsd
   have hxH:=hidden hx
   clear hx Aua
   go_wp2_with fail
   refine hsd.mono ?_;rintro e W3 ⟨v3,o3,rfl,hs3,bv,rfl,hbv⟩
   have pX:=hst3.trans (hs3.only L)
   have AuE:=AuF.step hs3 id id
   have Ahi:=hlv3.step hs3 id id
   have hal:=hidden (AB (P:=prog) W3 238 _ Zp)
   have hsw:=Be W3 #[.int .u64 0, .int .i64 0, .int .i64 0, .slice none 0 0] 238 (BQ x bv) rfl
   obtain ⟨hso, -⟩:=Ba (P:=prog) (ty:=238) (vs:=BQ x bv) (heap_alloc_new W3 (.cells [.int .u64 0, .int .i64 0, .int .i64 0, .slice none 0 0].toArray 238)) rfl (by kernel_rfl) (IK hbv)
   rw [hsw] at hso
   have Aaz:=hidden hso
   have hsa:=(Step.refl Nobody W3 o3).alloc (.cells (BQ x bv).toArray 238) (0,0)
   have hxb:(W3.alloc (.cells (BQ x bv).toArray 238)).heap[W3.heap.size]?=some (.cells (BQ x bv).toArray 238 (0,0)):=heap_alloc_new W3 _
   have hst5:=pX.trans (hsa.only L)
   have AqE:=AuE.step hsa id id
   have AqA:=Ahi.step hsa id id
   have Aoc:=hbv.step hsa id
   clear hsw hso pX hst3 AuE AuF Ahi hlv3 hs3 hsd hbv
   have hone:=IK Aoc
   have hW4:∃ W4,W3.alloc (.cells (BQ x bv).toArray 238)=W4:=⟨_,rfl⟩
   obtain ⟨W4,hW4⟩:=hW4
   have hld:=hidden (TF (AV (w:=W4) (b:=W3.heap.size) (cs:=BQ x bv) (by rw [←hW4];exact hxb)))
   have hbs:=hidden (QV W4 x bv hone)
   rw [hW4] at Aaz hst5 AqE AqA Aoc hxb
   generalize Ak o3 W3.heap.size (0,0)=o4 at *
   have hsA:=(Step.refl Nobody W4 o4).alloc (.cells (BQ x bv).toArray 238) (0,0)
   have pW:=hst5.trans (hsA.only L)
   have AqD:=AqE.step hsA id id
   have AnU:=AqA.step hsA id id
   have Avp:=Aoc.step hsA id
   have hpW:p ≤ (W4.alloc (.cells (BQ x bv).toArray 238)).heap.size:=by have:=AqD.lt;omega
   obtain ⟨v',W5,o5,hrun,Auw,hs7,hkp⟩:=AnU.append hpW hL (by rw [AuA.out];omega) (heap_alloc_new W4 (.cells (BQ x bv).toArray 238)) Avp
   have qF:=pW.trans hs7
   have AuD:BZ W5 o5 L p pd (Ad.raw f n M):=by
    obtain ⟨rv,vs,g1,g2,g3,g4,g5,g6⟩:=AqD
    have hpl:=lt_of_block g1
    have hne:Value.ownBlock (.slice la k lc) ≠ some p:=by
     intro hx
     obtain ⟨_,_,_,q3⟩:=AnU
     have:=q3 p hx
     rw [g4] at this;simp at this
    refine ⟨rv,vs,(hkp p hne hpl).trans g1,Ci g2 fun k' hk'=>hkp k' ?_ (g2.lt k' hk').2,g3.step hs7 (fun h=>hL h.symm),(hs7.own p hpl).trans g4,fun k' hk'=>(hs7.own k' (g2.lt k' hk').2).trans (g5 k' hk'),g6⟩
    intro hx
    obtain ⟨_,_,_,q3⟩:=AnU
    have h1:=q3 k' hx
    rw [g5 k' hk'] at h1
    simp at h1
   have Aax:=hidden hrun
   have hE':okb=true→Hid (E=if t<k+1 then t else n):=by
    intro hok;subst hok
    have hi:=Akd.out
    rw [hxH.out] at hi
    refine hidden ?_
    rw [hE.out]
    by_cases h1:t<k
    ·rw [if_pos h1,if_pos (by omega)]
    ·have:=(hi (by omega)).1 rfl
     rw [if_neg h1,if_neg (by omega)]
   have hE0:okb=false→(t<k→(¬ (k:Int)<(E:Int))∧Hid (E=if t<k+1 then t else n))∧(¬ t<k→(k:Int)<(E:Int)∧Hid (k=if t<k+1 then t else n)):=by
    intro hok;subst hok
    have hi:=Akd.out
    rw [hxH.out] at hi
    have hEE:=hE.out
    refine ⟨fun h1 => ?_,fun h1 => ?_⟩
    ·rw [if_pos h1] at hEE
     exact ⟨by omega,hidden (by rw [if_pos (by omega)];exact hEE)⟩
    ·rw [if_neg h1] at hEE
     have h2:¬ k<t:=fun h=>by have:=(hi (by omega)).2 h;cases this
     exact ⟨by omega,hidden (by rw [if_pos (by omega)];omega)⟩
   have hrel:∀ E',Hid (E'=if t<k+1 then t else n)→Hid (∃ (k' E'':Nat) (o':Own),k' ≤ n∧Value.int .i64 ((k:Int)+1) = .int .i64 k'∧Value.int .i64 (E':Int) = .int .i64 (E'':Int)∧Hid (E''=if t<k' then t else n)∧Step (Only L) w o W5 o'∧BZ W5 o' L p pd (Ad.raw f n (Ad.newest (ps.take k')))∧Gl W5 o' L p v' ((ps.take k').map fun p=>(CE p).1)):=fun E' hE' =>
    hidden ⟨k+1,E',o5,hlt,by rw [show (k:Int)+1=((k+1:Nat):Int) from by omega],rfl,hE',qF,by rw [AyR.out];exact AuD,by rw [Auy.out,hxH.out];exact Auw⟩
   have AgN:=hidden hrel
   rw [hW4] at *
   clear hrun hrel AuD qF hs7 Auw AnU AqD pW hsA Avp hst5 AqE AqA Aoc hone hsa hkp hpW
   cases hok:okb with
   | true =>
    rw [hok] at hxH
    have hq:=hE' hok
    clear hok
    have hr:=AgN.out E hq
    clear hE0 hE' AgN
    go_wp2_with (first
     | ((with_reducible apply Bo);exact hld.out;simp only [Act.put,GL,DL,lss])
     | ((with_reducible apply AU);exact hal.out;simp only [Act.put,GL,DL,lss])
     | ((with_reducible apply AC);exact Aaz.out;simp only [Act.put])
     | ((with_reducible apply BO #[(0, .agg (BQ x bv).toArray)] rfl);exact hbs.out;simp only [Act.put,GL,DL,lss])
     | ((with_reducible apply Bl);exact Aax.out;simp only [Act.put,GL,DL,lss]))
    go_roundw
    case rel=>exact hr.out
    case measure=>simp [intOf];omega
   | false =>
    rw [hok] at hxH
    have hq:=hE0 hok
    clear hok
    by_cases ht:t<k
    ·obtain ⟨q1,q2⟩:=hq.1 ht
     clear hq ht
     have hr:=AgN.out E q2
     clear hE0 hE' AgN
     go_wp2_with (first
     | ((with_reducible apply Bo);exact hld.out;simp only [Act.put,GL,DL,lss])
     | ((with_reducible apply AU);exact hal.out;simp only [Act.put,GL,DL,lss])
     | ((with_reducible apply AC);exact Aaz.out;simp only [Act.put])
     | ((with_reducible apply BO #[(0, .agg (BQ x bv).toArray)] rfl);exact hbs.out;simp only [Act.put,GL,DL,lss])
     | ((with_reducible apply Bl);exact Aax.out;simp only [Act.put,GL,DL,lss]))
     go_roundw
     case rel=>exact hr.out
     case measure=>simp [intOf];omega
    ·obtain ⟨q1,q2⟩:=hq.2 ht
     clear hq ht
     have hr:=AgN.out k q2
     clear hE0 hE' AgN
     go_wp2_with (first
     | ((with_reducible apply Bo);exact hld.out;simp only [Act.put,GL,DL,lss])
     | ((with_reducible apply AU);exact hal.out;simp only [Act.put,GL,DL,lss])
     | ((with_reducible apply AC);exact Aaz.out;simp only [Act.put])
     | ((with_reducible apply BO #[(0, .agg (BQ x bv).toArray)] rfl);exact hbs.out;simp only [Act.put,GL,DL,lss])
     | ((with_reducible apply Bl);exact Aax.out;simp only [Act.put,GL,DL,lss]))
     go_roundw
     case rel=>exact hr.out
     case measure=>simp [intOf];omega
  ·obtain rfl:n=k:=by omega
   have hEt:E=t:=by
    rw [hE.out]
    by_cases h1:t<n
    ·rw [if_pos h1]
    ·rw [if_neg h1];omega
   rw [hEt]
   have htake:ps.take n=ps:=List.take_of_length_le (by rw [zA.out];exact Nat.le_refl _)
   rw [htake] at pK hlv
   have hlT:(ps.map fun p=>(CE p).1).take t=Ad.Ah ps:=by
    unfold Ad.Ah
    rw [List.prefix_iff_eq_take.1 (List.takeWhile_prefix (fun p=>(CE p).2) (l:=ps)),nD.out,List.map_take]
   have hlen:(ps.map fun p=>(CE p).1).length=n:=by rw [List.length_map];exact zA.out
   have Ajh:(Ad.Ah ps).length=t:=by rw [←hlT,List.length_take,hlen];omega
   have hOf:Ad.AY f ps={ Ad.raw f n (Ad.newest ps) with Dx:=Ad.Di (Ad.Ah ps),end':=if Ad.Di (Ad.Ah ps) then (Ad.readAll (Ad.Ah ps)).1 else 1,records:=if Ad.Di (Ad.Ah ps) then (Ad.readAll (Ad.Ah ps)).2.2 else [] }:=by
    unfold Ad.AY Ad.raw;rw [zA.out]
   have Avt:∀ x ∈ Ad.Ah ps,x.bytes.length ≤ 480∧x.of'<65536∧x.at'<65536:=by
    intro x hx
    obtain ⟨j,hj⟩:=List.mem_iff_getElem?.1 hx
    obtain ⟨q,_,hok,rfl⟩:=Ad.Gu hj
    obtain ⟨h1,_,h3,_⟩:=Lp hok
    rw [h1]
    have hsm:∀ l:List UInt8,l.length ≤ 2→(num l).toNat<65536:=fun l hl=>by
     rw [EL (by omega)]
     exact Nat.lt_of_lt_of_le (Jg l) (by have:=Nat.pow_le_pow_right (n:=256) (by omega) hl;omega)
    exact ⟨PU q h3,hsm _ (by simp;omega),hsm _ (by simp;omega)⟩
   have Arr:=hidden hOf
   have Avs:=hidden Avt
   clear hOf Avt
   obtain ⟨S,hS⟩:∃ S,Ad.newest ps=S:=⟨_,rfl⟩
   rw [hS] at pK
   have vY:=pK.held
   obtain ⟨-, -, -,d3, -, -, -⟩:=vY
   simp only [Ad.raw] at d3
   have hSH:=hidden hS
   clear hS hE hEt
   by_cases hS1:S=BitVec.allOnes 64
   ·have hSi:(S.toNat:Int)=18446744073709551615:=by rw [hS1];rfl
    rw [hSi] at d3
    have Aac:Hid (Ad.newest ps=BitVec.allOnes 64):=hidden (by rw [hSH.out];exact hS1)
    clear hS1 hlv pK
    go_wp2_with fail
    go_ret2
    exact ⟨_,o1,rfl,hst,fun _=>rfl,fun h=>absurd Aac.out h⟩
   ·have hSi:((S.toNat:Int) == 18446744073709551615)=false:=by
     rw [beq_eq_false_iff_ne];intro h
     exact hS1 (BitVec.eq_of_toNat_eq (by rw [BitVec.toNat_allOnes];omega))
    obtain ⟨la,lc,rfl⟩:=hlv.form
    rw [hlen] at hlv ⊢
    have hNS:Hid (Ad.newest ps ≠ BitVec.allOnes 64):=hidden (by rw [hSH.out];exact hS1)
    clear hS1
    by_cases ht0:t=0
    ·-- no leaf at all
     have hl0:Ad.Ah ps=[]:=List.eq_nil_of_length_eq_zero (by rw [Ajh];exact ht0)
     have f4:wr.frozen? ⟨p,4,none⟩=false:=by obtain ⟨_,_,_,hf, -⟩:=pK.open;exact hf 4
     obtain ⟨_,_,⟨-, -, -, -,d4, -⟩, -⟩:=pK.open
     simp only [Ad.raw] at d4
     have hsx:=pK.DC 4 (.bool false)
     have hlx:=pK.set (m':=Ad.raw f n S) hL 4 (.bool false) (fun rv=>rfl) rfl pK.wf
     have Alh:=hst.trans hsx
     have hO:Ad.AY f ps=Ad.raw f n S:=by rw [Arr.out,hl0,hSH.out];rfl
     have hxH:=hidden (show Step (Only L) w o _ o1∧BZ _ o1 L p pd (Ad.AY f ps) from ⟨Alh,by rw [hO];exact hlx⟩)
     subst ht0
     clear hO hlx hsx Alh pK hlv hst hl0 hlT Ajh
     go_wp2_with fail
     go_ret2
     exact ⟨_,o1,rfl,hxH.out.1,fun h=>absurd h hNS.out,fun _=>⟨p,by omega,rfl,hxH.out.2⟩⟩
    ·have ht1:1 ≤ t:=by omega
     obtain ⟨g,cap,hgv,hcap,hcm,xX,hog, -,AhX⟩:=hlv.lvs hL t ht1 (by rw [hlen];exact htn)
     rw [hlT] at AhX
     rw [hlen] at hgv hcap
     simp only [Value.slice.injEq,true_and] at hgv
     obtain ⟨rfl,rfl⟩:=hgv
     obtain ⟨rv,vs,g1,g2,g3,g4,g5,g6⟩:=pK
     have hpg:p ≠ g:=by rintro rfl;rw [g4] at hog;simp at hog
     have hvs:vs=[]:=List.eq_nil_of_length_eq_zero (by simpa [Ad.raw] using g2.1)
     subst hvs
     have Adf:BZ wr (Ak o1 g (0,0)) L p pd (Ad.raw f n S):=
      ⟨rv,[],g1,g2,JG.nil _ _,by rw [BI _ _ hpg];exact g4,fun k hk=>by
       rw [BI _ _ (by rintro rfl;rw [g5 _ hk] at hog;simp at hog)];exact g5 k hk,g6⟩
     have hst2:Step (Only L) w o wr (Ak o1 g (0,0)):=⟨hst.os,hst.tape,hst.output,hst.size,fun k hk=>by rw [BI _ _ (by omega)];exact hst.own k hk,hst.block⟩
     generalize Ak o1 g (0,0)=o2 at *
     obtain ⟨x0,r,hxr⟩:∃ x0 r,Ad.Ah ps=x0 :: r:=by
      cases hl:Ad.Ah ps with
      | nil=>rw [hl] at Ajh;simp at Ajh;omega
      | cons x0 r=>exact ⟨x0,r,rfl⟩
     have AvB:=AhX.at
     rw [Ajh] at AvB
     obtain ⟨b',off',cap',hv', -, -,hat⟩:=AvB
     simp only [Value.slice.injEq,Option.some.injEq,Addr.mk.injEq] at hv'
     obtain ⟨⟨rfl,rfl, -⟩, -,rfl⟩:=hv'
     obtain ⟨bv0,hb0,hr0⟩:=hat 0 x0 (by rw [hxr];rfl)
     obtain ⟨a0,c0,rfl⟩:=Aq hb0
     have e1:=hr0 1 _ rfl
     have e2:=hr0 2 _ rfl
     have e3:=hr0 3 _ rfl
     simp only [Nat.zero_mul,Nat.add_zero,Nat.zero_add] at e1 e2 e3
     have hgl:=AhX
     have f4:wr.frozen? ⟨p,4,none⟩=false:=by obtain ⟨_,_,_,hf, -⟩:=Adf.open;exact hf 4
     obtain ⟨_,_,⟨-, -, -, -,d4, -⟩, -⟩:=Adf.open
     simp only [Ad.raw] at d4
     have hih:Ad.Di (Ad.Ah ps)=(x0.at' == 0 && x0.of' == 0 && x0.bytes.length == 0):=by rw [hxr];rfl
     obtain ⟨A,hA⟩:∃ A,x0.at'=A:=⟨_,rfl⟩
     obtain ⟨F,hF⟩:∃ F,x0.of'=F:=⟨_,rfl⟩
     obtain ⟨N,hNb⟩:∃ N,x0.bytes.length=N:=⟨_,rfl⟩
     rw [hA] at e1
     rw [hF] at e2
     rw [hNb] at e3
     rw [hA,hF,hNb] at hih
     have hsx:=Adf.DC 4 (.bool false)
     have hlx:=Adf.set (m':=Ad.raw f n S) hL 4 (.bool false) (fun rv=>rfl) rfl Adf.wf
     have hxH:Ad.Di (Ad.Ah ps)=false→Hid (Step (Only L) w o _ o2∧BZ _ o2 L p pd (Ad.AY f ps)):=fun hh =>
      hidden ⟨hst2.trans hsx,by rw [show Ad.AY f ps=Ad.raw f n S from by rw [Arr.out,hh,hSH.out];rfl];exact hlx⟩
     have hti:(0:Int)<(t:Int):=by omega
     have hni:(0:Int)<(n:Int):=by omega
     have AnZ:=hidden hih
     clear hih hxr hA hF hNb hr0 hat hb0 g1 g2 g3 g4 g5 g6 hst hog hlv hlx hsx
     by_cases hA0:A=0
     ·subst hA0
      by_cases hF0:F=0
      ·subst hF0
       by_cases hN0:N=0
       ·subst hN0
        have AuR:Ad.Di (Ad.Ah ps)=true:=by rw [AnZ.out];rfl
        have hsx:=Adf.DC 4 (.bool true)
        have hlx:=Adf.set (m':={ Ad.raw f n S with Dx:=true }) hL 4 (.bool true) (fun rv=>rfl) rfl Adf.wf
        have Auv:=AhX.step hsx hN
        have hread:=YL hL hlx (Ad.Ah ps) _ Auv (by rw [Ajh];exact ht1) (by rw [Ajh];exact htn) Avs.out rfl rfl
        have Alh:=hst2.trans hsx
        have hO:Hid (({ ({ Ad.raw f n S with Dx:=true }:Ad) with records:=(Ad.readAll (Ad.Ah ps)).2.2,end':=(Ad.readAll (Ad.Ah ps)).1 }:Ad)=Ad.AY f ps):=hidden (by
         rw [Arr.out,AuR,hSH.out];rfl)
        have c4:(wr.setCell ⟨p,4,none⟩ (.bool true)).cell? ⟨p,4,none⟩=some (.bool true):=by
         obtain ⟨_,_,⟨-, -, -, -,q4, -⟩, -⟩:=hlx.open;exact q4
        have htc:(t:Int) ≤ (lc:Int):=by omega
        clear hxH Adf hst2 AhX hgl hlx hsx Auv AuR hpg
        go_wp2_with fail
        refine hread.mono ?_;rintro e W6 ⟨v6,o6,rfl,hs6,rfl,hl6⟩
        have wY:BZ W6 o6 L p pd (Ad.AY f ps):=by rw [←hO.out];exact hl6
        have hx:=hidden (aI (Alh.trans hs6) wY)
        clear hread hl6 wY hs6 Alh
        go_wp2_with fail
        go_ret2
        exact ⟨_,o6,rfl,hx.out.1,fun h=>absurd h hNS.out,fun _=>⟨p,by omega,rfl,hx.out.2⟩⟩
       ·have hz:((N:Int) == 0)=false:=by rw [beq_eq_false_iff_ne];omega
        have hx:=hxH (by rw [AnZ.out];simp [hN0])
        clear hxH Adf hst2 AhX hgl hN0
        go_wp2_with fail
        go_ret2
        exact ⟨_,o2,rfl,hx.out.1,fun h=>absurd h hNS.out,fun _=>⟨p,by omega,rfl,hx.out.2⟩⟩
      ·have hz:((F:Int) == 0)=false:=by rw [beq_eq_false_iff_ne];omega
       have hx:=hxH (by rw [AnZ.out];simp [hF0])
       clear hxH Adf hst2 AhX hgl hF0
       go_wp2_with fail
       go_ret2
       exact ⟨_,o2,rfl,hx.out.1,fun h=>absurd h hNS.out,fun _=>⟨p,by omega,rfl,hx.out.2⟩⟩
     ·have hz:((A:Int) == 0)=false:=by rw [beq_eq_false_iff_ne];omega
      have hx:=hxH (by rw [AnZ.out];simp [hA0])
      clear hxH Adf hst2 AhX hgl hA0
      go_wp2_with fail
      go_ret2
      exact ⟨_,o2,rfl,hx.out.1,fun h=>absurd h hNS.out,fun _=>⟨p,by omega,rfl,hx.out.2⟩⟩
end
theorem Af.NQ (f:Nat→Nat) (pages:List (List UInt8)) (row:List (Nat × List UInt8)):(Af.Dk f pages row).length=pages.length:=by
 have h1:∀ (l:List ((Nat × List UInt8) × Nat)) (ps:List (List UInt8)),(l.foldl (Af.Gf f) ps).length=ps.length:=by
  intro l
  induction l with
  | nil=>intro ps;rfl
  | cons x r ih=>intro ps;rw [List.foldl_cons,ih];simp [Af.Gf]
 exact h1 _ _
namespace Ad
structure Up (s:Ad × Af):Prop where
 ld:s.1.dead=false
 dd:s.2.dead=false
 left:s.2.left<0
 fit:s.1.first+s.1.n ≤ s.2.pages.length
 n2:2 ≤ s.1.n
 e1:1 ≤ s.1.end'
 en:s.1.end' ≤ s.1.n
 row:s.2.row=[]
def Like (d d':Af):Prop:=d'.dead=d.dead∧d'.left=d.left∧d'.row=[]∧d'.pages.length=d.pages.length
theorem AkD {s:Ad × Af} (h1:s.1.dead=false) (h2:s.2.dead=false) (b:List UInt8) (hm:s.1.n - s.1.end'<many b):Ag b s=(s,4):=by
 unfold Ag alive
 rw [h1,h2]
 simp only [Bool.or_self,Bool.false_eq_true,if_false,steps,step1,if_pos hm,h1]
 obtain ⟨l,d⟩:=s
 cases l
 simp only at h1
 subst h1
 simp
end Ad
theorem NY:num (Af.blank.take 8)=0#64∧num (Af.blank.drop 504)=0#64:=by decide +kernel
theorem MN:∀ k,Ad.newest (List.replicate k Af.blank)=0#64
 | 0=>rfl
 | k+1=>by
  have h:=MN k
  rw [List.replicate_succ']
  unfold Ad.newest at *
  rw [List.foldl_append,h]
  simp only [List.foldl_cons,List.foldl_nil,NY.1,NY.2]
  decide
theorem TJ (k:Nat):Ad.Ah (List.replicate k Af.blank)=[]:=by
 cases k with
 | zero=>rfl
 | succ k =>
  have h:(CE Af.blank).2=false:=by unfold CE;rw [if_pos (.inl NY.1)]
  unfold Ad.Ah
  rw [List.replicate_succ,List.takeWhile_cons_of_neg (by simp [h])];rfl
theorem Qs {w:World} {o:Own} {L p pd:Nat} {m:Ad} (h:BZ w o L p pd m) (rs:List (List UInt8)) (hrs:m.records=rs) :
  Calls prog 124 #[.pointer (some ⟨p,0,none⟩)] w (XL Nobody w o fun v w' o'=>∃ vs,w'.ownsRow w.heap.size 29 1 v rs.length vs∧Le w w' vs rs∧Ey w' o' vs rs∧∀ k,w.heap.size ≤ k→o' k=(0,0)):=by
 refine (We h).mono ?_
 rintro e w' ⟨v,vs,rfl,hb,hown,hrows⟩
 rw [hrs] at hown hrows
 have hs:Step Nobody w o w' (ext w o):=⟨hb.os,hb.tape,hb.output,hb.size,fun k hk=>if_pos hk,fun k hk _=>hb.block k hk⟩
 refine ⟨v,ext w o,rfl,hs,vs,hown,hrows,⟨hrows.1,fun i x l hx hl => ?_⟩,fun k hk=>if_neg (by omega)⟩
 have h1:=hrows.2 i x l hx hl
 exact Ry h1 (fun k hk=>by unfold ext;rw [if_neg (by have:=(h1.lt k hk).1;omega)])
theorem GU (w:World) (cs:List Value) (n c:Nat):(convert 29 29 (.slice (some ⟨w.heap.size,0,none⟩) n c)).run prog (w.alloc (.cells cs.toArray 5)) = .ok (.slice (some ⟨w.heap.size,0,none⟩) n c) (w.alloc (.cells cs.toArray 5 (cs.length,cs.length+1))):=by
 have:=Go.Lib.run_convert_bytes_const (P:=prog) w 29 5 cs.toArray n c underlying29 underlying5
 simpa using this
theorem SV {w:World} {o:Own} {L p pd:Nat} {m:Ad} (h:BZ w o L p pd m) (r:Nat) (hr:m.room=r):Calls prog 180 #[.pointer (some ⟨p,0,none⟩)] w (XL Nobody w o fun v _ _=>v = .int .i64 (r:Int)):=by
 have:=UI h;rw [hr] at this;exact this
theorem NW {w:World} {o:Own} {L D p pd:Nat} {s s':Ad × Af} {e:Int} (hL:L ≠ 0) (hD:D ≠ 0) (hLD:L ≠ D) (h:LD w o L D p pd s) (hrow:s.2.row.length ≤ 700000) (b:List UInt8) (bv:Value) (hb:Bytes w o bv b) (hcapb:capLe bv) (rF:b.length ≤ 200000000000000) (he:Ad.Ag b s=(s',e)) :
  Calls prog 181 #[.pointer (some ⟨p,0,none⟩),bv] w (XL (In L D) w o fun v w' o'=>v = .int .i64 e∧LD w' o' L D p pd s'):=by
 have:=Xt hL hD hLD h hrow b bv hb hcapb rF;rw [he] at this;exact this
theorem UK {w:World} {o:Own} {L D p pd:Nat} {s s':Ad × Af} {e:Int} (hL:L ≠ 0) (hD:D ≠ 0) (hLD:L ≠ D) (h:LD w o L D p pd s) (hrow:s.2.row.length ≤ 700000) (he:Ad.reset s=(s',e)) :
  Calls prog 183 #[.pointer (some ⟨p,0,none⟩)] w (XL (In L D) w o fun v w' o'=>v = .int .i64 e∧LD w' o' L D p pd s'):=by
 have:=Yz hL hD hLD h hrow;rw [he] at this;exact this
def iJ (b:UInt8) (m:Nat):List UInt8:=(List.range m).map fun i=>b+UInt8.ofNat (i / 7)
theorem XG {w:World} {o:Own} {b e:Nat} {v:Value} {n:Nat} {xs:List Value} (h:w.ownsRow b e 1 v n xs) (ho:∀ k,v.ownBlock=some k→(o k).1=0):sH w o v n xs:=by
 rcases h.2 with ⟨rfl,h0⟩ | ⟨g,cap,cur,rfl,h1,h2,h3,h4,h5,h6⟩
 ·subst h0;exact .inl ⟨⟨_,_,rfl⟩,rfl,List.eq_nil_of_length_eq_zero h.1⟩
 ·refine .inr ⟨g,0,cap,rfl,h3,h4,ho g rfl,lt_of_block h2, ?_⟩
  have:w.rangeAt g 0 ((cur.toList.drop 0).take n):=BU (w:=w) (b:=g) (cs:=cur.toList) (E:=e) (fr:=(0,0)) (by simpa using h2) 0 n
  rw [List.drop_zero] at this
  rw [Nat.mul_one] at h6
  rwa [h6] at this
theorem ZM {A:List UInt8} (h:A.length=8) (hn:Dw A<65536):∃ x y:UInt8,A=[0,0,0,0,0,0,x,y]∧Dw A=x.toNat*256+y.toNat:=by
 have hx:∀ x y:UInt8,Dw [0,0,0,0,0,0,x,y]=x.toNat*256+y.toNat:=fun x y=>by simp [Dw]
 obtain ⟨N,hN⟩:∃ N,Dw A=N:=⟨_,rfl⟩
 rw [hN] at hn ⊢
 have e1:(UInt8.ofNat (N / 256)).toNat=N / 256:=by rw [UInt8.toNat_ofNat'];omega
 have e2:(UInt8.ofNat (N % 256)).toNat=N % 256:=by rw [UInt8.toNat_ofNat'];omega
 refine ⟨UInt8.ofNat (N / 256),UInt8.ofNat (N % 256), ?_, ?_⟩
 ·apply AeJ
  ·simpa using h
  ·rw [hx,e1,e2,hN];omega
 ·rw [e1,e2];omega
theorem iH {A B:List UInt8} (hA:A.length=8) (hB:B.length=8) (a:Dw A<65536) (b:Dw B<65536) (n:Nat) :
  A.take n++B.drop n=B ∨ A.take n++B.drop n=A ∨ (Dw (A.take n++B.drop n)=Dw A / 256*256+Dw B % 256):=by
 obtain ⟨x,y,rfl,ha⟩:=ZM hA a
 obtain ⟨u,v,rfl,hb⟩:=ZM hB b
 have hy:=y.toNat_lt
 have hv:=v.toNat_lt
 by_cases h8:8 ≤ n
 ·right;left
  rw [List.take_of_length_le (by simpa using h8),List.drop_eq_nil_of_le (by simpa using h8),List.append_nil]
 by_cases h7:n=7
 ·right;right
  subst h7
  rw [ha,hb]
  have:Dw (List.take 7 [0,0,0,0,0,0,x,y]++List.drop 7 [0,0,0,0,0,0,u,v])=x.toNat*256+v.toNat:=by simp [Dw]
  rw [this];omega
 ·left
  have:n=0 ∨ n=1 ∨ n=2 ∨ n=3 ∨ n=4 ∨ n=5 ∨ n=6:=by omega
  rcases this with rfl | rfl | rfl | rfl | rfl | rfl | rfl <;> rfl
namespace Ad
def DZ (K:Nat) (p:List UInt8):Prop:=p.length=512∧Dw (p.take 8) ≤ K∧Dw (p.drop 504) ≤ K∧(Dw (p.take 8) % 256=Dw (p.drop 504) % 256→Dw (p.drop 504) / 256 ≤ Dw (p.take 8) / 256)
theorem DZ.mono {K K':Nat} {p:List UInt8} (h:DZ K p) (hK:K ≤ K'):DZ K' p:=⟨h.1,Nat.le_trans h.2.1 hK,Nat.le_trans h.2.2.1 hK,h.2.2.2⟩
theorem VP {p:List UInt8} (_h:p.length=512):p=p.take 8++((p.drop 8).take 496++p.drop 504):=by
 rw [show p.drop 504=(p.drop 8).drop 496 from by rw [List.drop_drop],List.take_append_drop,List.take_append_drop]
theorem ends {A M Z:List UInt8} (hA:A.length=8) (hM:M.length=496) (hZ:Z.length=8):(A++(M++Z)).take 8=A∧(A++(M++Z)).drop 504=Z∧(A++(M++Z)).length=512:=by
 refine ⟨List.take_left' hA, ?_,by simp;omega⟩
 rw [show 504=8+496 from rfl, ←List.drop_drop,List.drop_left' hA,List.drop_left' hM]
theorem WL {A R A' R':List UInt8} (hA:A.length=8) (hA':A'.length=8) {n:Nat} (hn:n ≤ 8):Af.CG n (A'++R') (A++R)=(A'.take n++A.drop n)++R:=by
 unfold Af.CG
 rw [List.take_append_of_le_length (by omega),List.drop_append_of_le_length (by omega),List.append_assoc]
theorem WJ {A M Z A' M' Z':List UInt8} (hA:A.length=8) (hA':A'.length=8) (hM:M.length=496) (hM':M'.length=496) {m:Nat} (hn:m ≤ 496):Af.CG (8+m) (A'++(M'++Z')) (A++(M++Z))=A'++((M'.take m++M.drop m)++Z):=by
 unfold Af.CG
 have e1:(A'++(M'++Z')).take (8+m)=A'++M'.take m:=by
  rw [show 8+m=A'.length+m from by omega,List.take_length_add_append,List.take_append_of_le_length (by omega)]
 have e2:(A++(M++Z)).drop (8+m)=M.drop m++Z:=by
  rw [show 8+m=A.length+m from by omega,List.drop_length_add_append,List.drop_append_of_le_length (by omega)]
 rw [e1,e2];simp [List.append_assoc]
theorem Ux {A M Z A' M' Z':List UInt8} (hA:A.length=8) (hA':A'.length=8) (hM:M.length=496) (hM':M'.length=496) {m:Nat} (_hn:m ≤ 8) (_hZ:Z.length=8) (_hZ':Z'.length=8):Af.CG (504+m) (A'++(M'++Z')) (A++(M++Z))=A'++(M'++(Z'.take m++Z.drop m)):=by
 unfold Af.CG
 have e1:(A'++(M'++Z')).take (504+m)=A'++(M'++Z'.take m):=by
  rw [show 504+m=A'.length+(M'.length+m) from by omega,List.take_length_add_append,List.take_length_add_append]
 have e2:(A++(M++Z)).drop (504+m)=Z.drop m:=by
  rw [show 504+m=A.length+(M.length+m) from by omega,List.drop_length_add_append,List.drop_length_add_append]
 rw [e1,e2];simp [List.append_assoc]
theorem Yq {p:List UInt8} (h:(CE p).2=true):Dw (p.take 8)=Dw (p.drop 504):=by
 obtain ⟨-,h1,h2, -⟩:=Lp h
 obtain ⟨e1, -, -, -, -,e2⟩:=AA.Hy (GY p) (PU p h2)
 rw [h1] at e1 e2
 rw [e1,e2]
theorem ZQ {p:List UInt8} (h:Dw (p.take 8) ≠ Dw (p.drop 504)):(CE p).2=false:=by
 cases hs:(CE p).2 with
 | false=>rfl
 | true=>exact (h (Yq hs)).elim
theorem UX {x:AA} (hx:x.bytes.length ≤ 480):∃ M,M.length=496∧x.page=be 8 x.stamp++(M++be 8 x.stamp):=by
 obtain ⟨e1, -, -, -, -,e2⟩:=AA.Hy x hx
 have hl:=AA.ES hx
 have:=VP hl
 rw [e1,e2] at this
 exact ⟨_,by simp [hl],this⟩
theorem Vf (S:BitVec 64):Dw (be 8 S)=S.toNat:=by rw [Tu];exact Nat.mod_eq_of_lt (Nat.lt_of_lt_of_le S.isLt (by decide))
theorem JW {x:AA} (hx:x.bytes.length ≤ 480) {K:Nat} (hK:x.stamp.toNat ≤ K):DZ K x.page:=by
 obtain ⟨M,hM,e⟩:=UX hx
 obtain ⟨e1,e2,e3⟩:=ends (Az 8 x.stamp) hM (Az 8 x.stamp)
 unfold DZ
 rw [e,e1,e2,e3,Vf]
 exact ⟨rfl,hK,hK,fun _=>Nat.le_refl _⟩
theorem Rj {K:Nat} (x:AA) (hx:x.bytes.length ≤ 480) (hK:K<x.stamp.toNat) (hS:x.stamp.toNat<65536) {p:List UInt8} (hp:DZ K p) (n:Nat) :
  (Af.CG n x.page p=p ∨ Af.CG n x.page p=x.page ∨ (CE (Af.CG n x.page p)).2=false)∧DZ (x.stamp.toNat+255) (Af.CG n x.page p):=by
 obtain ⟨hl,hf,hg,hc⟩:=hp
 obtain ⟨M',hM',e⟩:=UX hx
 have hS8:=Az 8 x.stamp
 have hSn:=Vf x.stamp
 have hcut:=VP hl
 obtain ⟨A,hA⟩:∃ A,p.take 8=A:=⟨_,rfl⟩
 obtain ⟨M,hM⟩:∃ M,(p.drop 8).take 496=M:=⟨_,rfl⟩
 obtain ⟨Z,hZ⟩:∃ Z,p.drop 504=Z:=⟨_,rfl⟩
 have hAl:A.length=8:=by rw [←hA];simp [hl]
 have hMl:M.length=496:=by rw [←hM];simp [hl]
 have hZl:Z.length=8:=by rw [←hZ];simp [hl]
 rw [hA,hM,hZ] at hcut
 rw [hA] at hf hc
 rw [hZ] at hg hc
 clear hA hM hZ
 have Awg:DZ (x.stamp.toNat+255) p:=by
  obtain ⟨e1,e2,e3⟩:=ends hAl hMl hZl
  unfold DZ
  rw [hcut,e1,e2,e3]
  exact ⟨rfl,by omega,by omega,hc⟩
 have hNew:DZ (x.stamp.toNat+255) x.page:=JW hx (by omega)
 generalize hB:be 8 x.stamp=B at *
 generalize x.stamp.toNat=S at *
 have fin:∀ {A2 M2 Z2:List UInt8},A2.length=8→M2.length=496→Z2.length=8→Dw A2 ≤ S+255→Dw Z2 ≤ S+255→Dw A2 ≠ Dw Z2→(Dw A2 % 256=Dw Z2 % 256→Dw Z2 / 256 ≤ Dw A2 / 256) →
   (CE (A2++(M2++Z2))).2=false∧DZ (S+255) (A2++(M2++Z2)):=by
  intro A2 M2 Z2 h1 h2 h3 h4 h5 h6 h7
  obtain ⟨e1,e2,e3⟩:=ends h1 h2 h3
  refine ⟨ZQ (by rw [e1,e2];exact h6), ?_⟩
  unfold DZ
  rw [e1,e2,e3]
  exact ⟨rfl,h4,h5,h7⟩
 by_cases h8:n ≤ 8
 ·rw [e,hcut,WL hAl hS8 h8]
  rcases iH hS8 hAl (by omega) (by omega) n with h | h | h
  ·rw [h, ←hcut];exact ⟨.inl rfl,Awg⟩
  ·rw [h]
   have:=fin hS8 hMl hZl (by omega) (by omega) (by omega) (by omega)
   exact ⟨.inr (.inr this.1),this.2⟩
  ·by_cases he:Dw (B.take n++A.drop n)=Dw Z
   ·have hA2:B.take n++A.drop n=A:=by
     apply AeJ
     ·simp [hS8,hAl];omega
     ·rw [h] at he ⊢
      have h1:Dw A % 256=Dw Z % 256:=by omega
      have h2:=hc h1
      omega
    rw [hA2, ←hcut];exact ⟨.inl rfl,Awg⟩
   ·have:=fin (A2:=B.take n++A.drop n) (M2:=M) (Z2:=Z) (by simp [hS8,hAl];omega) hMl hZl (by rw [h];omega) (by omega) he (by rw [h];omega)
    exact ⟨.inr (.inr this.1),this.2⟩
 ·by_cases Bge:n ≤ 504
  ·obtain ⟨m,rfl⟩:∃ m,n=8+m:=⟨n - 8,by omega⟩
   rw [e,hcut,WJ hAl hS8 hMl hM' (by omega)]
   have:=fin (A2:=B) (M2:=M'.take m++M.drop m) (Z2:=Z) hS8 (by simp [hMl,hM'];omega) hZl (by omega) (by omega) (by omega) (by omega)
   exact ⟨.inr (.inr this.1),this.2⟩
  ·by_cases Bgd:n ≤ 512
   ·obtain ⟨m,rfl⟩:∃ m,n=504+m:=⟨n - 504,by omega⟩
    rw [e,hcut,Ux hAl hS8 hMl hM' (by omega) hZl hS8]
    rcases iH hS8 hZl (by omega) (by omega) m with h | h | h
    ·rw [h]
     have:=fin (A2:=B) (M2:=M') (Z2:=Z) hS8 hM' hZl (by omega) (by omega) (by omega) (by omega)
     exact ⟨.inr (.inr this.1),this.2⟩
    ·rw [h, ←e];exact ⟨.inr (.inl rfl),hNew⟩
    ·by_cases he:Dw B=Dw (B.take m++Z.drop m)
     ·have:B.take m++Z.drop m=B:=by
       apply AeJ
       ·simp [hS8,hZl];omega
       ·exact he.symm
      rw [this, ←e];exact ⟨.inr (.inl rfl),hNew⟩
     ·have:=fin (A2:=B) (M2:=M') (Z2:=B.take m++Z.drop m) hS8 hM' (by simp [hS8,hZl];omega) (by omega) (by rw [h];omega) he (by rw [h];omega)
      exact ⟨.inr (.inr this.1),this.2⟩
   ·have:Af.CG n x.page p=x.page:=by
     unfold Af.CG
     rw [List.take_of_length_le (by rw [AA.ES hx];omega),List.drop_eq_nil_of_le (by omega),List.append_nil]
    rw [this];exact ⟨.inr (.inl rfl),hNew⟩
end Ad
namespace Af
theorem Lh (f:Nat→Nat) (pages:List (List UInt8)) (base:Nat) (g:Nat→List UInt8):∀ m,base+m ≤ pages.length→∀ j,
  (Dk f pages ((List.range m).map fun t=>(base+t,g t))).getD j []=if base ≤ j∧j<base+m then CG (f (j - base)) (g (j - base)) (pages.getD j []) else pages.getD j []
 | 0,_,j=>by rw [if_neg (by omega)];rfl
 | m+1,h,j=>by
  have ih:=Lh f pages base g m (by omega)
  rw [List.range_succ,List.map_append,List.map_cons,List.map_nil,Kw]
  unfold Gf
  simp only [List.length_map,List.length_range]
  rw [VI _ _ _ _ _ (by rw [NQ];omega)]
  by_cases hj:base+m=j
  ·rw [if_pos hj,if_pos (by omega),ih,if_neg (by omega),hj,show j - base=m from by omega]
  ·rw [if_neg hj,ih]
   by_cases h2:base ≤ j∧j<base+m
   ·rw [if_pos h2,if_pos (by omega)]
   ·rw [if_neg h2,if_neg (by omega)]
end Af

end Go.Proofs.YtffkdillijmamaaGreat
