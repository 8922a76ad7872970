/- Contracts: the steps of Commit and Reset but the third. -/
import Derived.RangeFuncNested
import Derived.RangeFuncBound
import Derived.RangeFuncCalls
import Derived.RangeFuncLeaves
import Derived.Shelf.Abstract
import Derived.Shelf.RegionOpen
import Derived.WalkKit
import Derived.OwnWalkIn
import Derived.TacticsInMore
import Derived.LoopNIn
import Derived.LoopIn
import Derived.OrdersIn
import Derived.Test.YtffkdillijmamaaGreatGn2
namespace Go.Proofs.YtffkdillijmamaaGreat
open Go.Proofs.Tryz
set_option maxRecDepth 100000
set_option maxHeartbeats 6400000
open Go Go.RowKit
attribute [local go_sem ↓] Go.wp_at_zero Go.wp_at_succ
def Box (w:World) (o:Own) (b:Nat) (t:TypeId) (v:Value):Prop:=w.heap[b]?=some (.cells #[v] t (0,0))∧(o b).1=0
theorem Box.step {T:Nat→Prop} {w w':World} {o o':Own} {b:Nat} {t:TypeId} {v:Value} (h:Box w o b t v) (s:Step T w o w' o') (hT:¬ T 0):Box w' o' b t v:=
 ⟨by rw [s.block b (lt_of_block h.1) (by rw [h.2];exact hT)];exact h.1,by rw [s.own b (lt_of_block h.1)];exact h.2⟩
theorem Box.cell {w:World} {o:Own} {b:Nat} {t:TypeId} {v:Value} (h:Box w o b t v):w.cell? ⟨b,0,none⟩=some v:=cell_of_one h.1
theorem Box.new (w:World) (o:Own) (t:TypeId) (v:Value):Box (w.alloc (.cells #[v] t)) (Ak o w.heap.size (0,0)) w.heap.size t v:=⟨heap_alloc_new w _,by rw [Au]⟩
section
variable {w:World} {o:Own} {L D p pd:Nat} {s:Ad × Af}
theorem Yk (h:LD w o L D p pd s) (b:List UInt8) (_hmany:Ad.many b ≤ 1000000000000) (bm bl:Nat) (hm:Box w o bm 3 (.int .i64 (Ad.many b:Int))) (hl:Box w o bl 162 (.pointer (some ⟨p,0,none⟩))) :
  Calls prog 232 #[.pointer (some ⟨bm,0,none⟩), .pointer (some ⟨bl,0,none⟩)] w (XL (In L D) w o fun v w' o'=>v = .int .i64 (Ad.step1 b s).2∧LD w' o' L D p pd (Ad.step1 b s).1):=by
 obtain ⟨c0,c1,c2,c3,c4,c5,c7⟩:=h.1.held
 obtain ⟨g1,g2,g3,g4,g5, -⟩:=h.1.wf
 have cm:=hm.cell
 have cl:=hl.cell
 have hst:Step (In L D) w o w.drew o:=(Step.refl _ w o).drew
 have hld:=h.step ((Step.refl Nobody w o).drew) id id id
 have hsub:((s.1.n:Int) - (s.1.end':Int))=((s.1.n - s.1.end':Nat):Int):=by omega
 have hE:Ad.step1 b s=if s.1.n - s.1.end'<Ad.many b then (s,4) else (s,0):=rfl
 have hEH:=hidden hE
 clear hE c0 c1 c3 c4 c7 h hm hl
 generalize s.1.n=n at *
 generalize s.1.end'=e at *
 generalize Ad.many b=m at *
 go_enter func232,ntmps232
 go_wp2_with fail
 refine Aa (fun w'=>w'.cell? ⟨p,2,none⟩=some (.int .i64 (n:Int))∧w'.cell? ⟨p,5,none⟩=some (.int .i64 (e:Int))∧w'.cell? ⟨bm,0,none⟩=some (.int .i64 (m:Int))∧w'.cell? ⟨bl,0,none⟩=some (.pointer (some ⟨p,0,none⟩))) (fun _=>true) (by kernel_rfl) ⟨c2,c5,cm,cl⟩ (fun hHeld => ?_)
 refine tq 0 (h:=tq 1 (h:=tq 2 (h:=tq 3 (h:=tq 4 (h:=tq 5 (h:=tq 6 (h:=tq 7 (h:=tq 8 (h:=tq 9 (h:=tq 10 (h:=tD (h:=?_))))))))))))
 rw [wrap_i64 (n:=((n - e:Nat):Int)) (by omega) (by omega)]
 clear hHeld c2 c5 cm cl hsub
 by_cases hlt:n - e<m
 ·rw [if_pos hlt] at hEH
  have hd:decide (((n - e:Nat):Int)<(m:Int))=true:=by simp;omega
  rw [hd]
  clear hd
  go_wp2_with fail
  go_ret
  rw [hEH.out]
  exact ⟨_,o,rfl,hst,rfl,hld⟩
 ·rw [if_neg hlt] at hEH
  have hd:decide (((n - e:Nat):Int)<(m:Int))=false:=by simp;omega
  rw [hd]
  clear hd
  go_wp2_with fail
  go_ret
  rw [hEH.out]
  exact ⟨_,o,rfl,hst,rfl,hld⟩
theorem Yj (hL:L ≠ 0) (hD:D ≠ 0) (hLD:L ≠ D) (h:LD w o L D p pd s) (hrow:s.2.row.length ≤ 900000) (bl:Nat) (hl:Box w o bl 162 (.pointer (some ⟨p,0,none⟩))) :
  Calls prog 233 #[.pointer (some ⟨bl,0,none⟩)] w (XL (In L D) w o fun v w' o'=>v = .int .i64 (Ad.step2 s).2∧LD w' o' L D p pd (Ad.step2 s).1):=by
 have hN:¬ In L D 0:=fun h=>by rcases h with h | h <;> omega
 obtain ⟨c0,c1,c2,c3,c4,c5,c7⟩:=h.1.held
 have cl:=hl.cell
 have hE:Ad.step2 s=if s.1.Dx then (s,0) else (({ (Ad.head s).1.1 with Dx:=(Ad.head s).2 == 0 },(Ad.head s).1.2),(Ad.head s).2):=by unfold Ad.step2;rfl
 have hEH:=hidden hE
 have hh:=VB hL hD hLD h hrow
 clear hE c0 c1 c2 c3 c5 c7
 cases hd:s.1.Dx with
 | true =>
  rw [hd] at c4 hEH
  rw [if_pos rfl] at hEH
  go_enter func233,ntmps233
  go_wp2_with fail
  go_ret
  rw [hEH.out]
  exact ⟨_,o,rfl,Step.refl _ _ _,rfl,h⟩
 | false =>
  rw [hd] at c4 hEH
  rw [if_neg (by simp)] at hEH
  obtain ⟨r,hr⟩:∃ r,Ad.head s=r:=⟨_,rfl⟩
  rw [hr] at hEH hh
  clear hr hd
  go_enter func233,ntmps233
  go_wp2_with fail
  refine hh.mono ?_;rintro e w1 ⟨v1,o1,rfl,hs1,rfl,oZ⟩
  have cl1:=(hl.step hs1 hN).cell
  obtain ⟨rv,vs, -,hf, -⟩:=oZ.1.open
  obtain ⟨-, -, -, -,d4, -⟩:=oZ.1.held
  have f4:=hf 4
  have hset:=oZ.1.set (m':={ r.1.1 with Dx:=r.2 == 0 }) hL 4 (.bool (r.2 == 0)) (fun rv=>rfl) rfl oZ.1.wf
  have pX:=oZ.1.DC 4 (.bool (r.2 == 0))
  have hd4:=oZ.2.step pX (fun e=>hLD e.symm)
  have hs2:=hs1.trans pX.yG
  clear hf hh hs1 pX oZ c4 cl
  obtain ⟨⟨m1,d1⟩,e1⟩:=r
  simp only at hset hd4 hs2 hEH d4
  go_wp2_with fail
  go_ret
  rw [hEH.out]
  exact ⟨_,o1,rfl,hs2,rfl,hset,hd4⟩
theorem WS (hL:L ≠ 0) (hLD:L ≠ D) (h:LD w o L D p pd s) (bl:Nat) (hl:Box w o bl 162 (.pointer (some ⟨p,0,none⟩))) :
  Calls prog 240 #[.pointer (some ⟨bl,0,none⟩)] w (XL (In L D) w o fun v w' o'=>v = .int .i64 (Ad.Hr s).2∧LD w' o' L D p pd (Ad.Hr s).1):=by
 obtain ⟨m,d⟩:=s
 obtain ⟨pK,hdk⟩:=h
 simp only at pK hdk
 have hwf:=pK.wf
 have cl:=hl.cell
 have AbS:bl ≠ p:=by rintro rfl;have h1:=hl.2;have h2:=pK.wE;omega
 have hpl:=pK.lt
 have hfin:Hid (BZ ((((w.drew.setCell ⟨p,4,none⟩ (.bool true)).setCell ⟨p,6,none⟩ (.slice none 0 0))).setCell ⟨p,5,none⟩ (.int .i64 1)) o L p pd (Ad.Hr (m,d)).1.1 ∧
   Step (Only L) w o ((((w.drew.setCell ⟨p,4,none⟩ (.bool true)).setCell ⟨p,6,none⟩ (.slice none 0 0))).setCell ⟨p,5,none⟩ (.int .i64 1)) o):=by
  have h1:=pK.set (m':={ m with Dx:=true }) hL 4 (.bool true) (fun rv=>rfl) rfl hwf
  have s1:=pK.DC 4 (.bool true)
  have hdr:Step Nobody w o w.drew o:=(Step.refl _ _ _).drew
  have h0:=pK.step hdr id id
  obtain ⟨rv,vs,hp,hr,hv,op,wI,_⟩:=h0
  have hst:Step (Only L) w.drew o ((((w.drew.setCell ⟨p,4,none⟩ (.bool true)).setCell ⟨p,6,none⟩ (.slice none 0 0))).setCell ⟨p,5,none⟩ (.int .i64 1)) o:=
   (((Step.refl (Only L) w.drew o).setCell (a:=⟨p,4,none⟩) _ (.inl (by show (o p).1=L;rw [op]))).setCell (a:=⟨p,6,none⟩) _ (.inl (by show (o p).1=L;rw [op]))).setCell (a:=⟨p,5,none⟩) _ (.inl (by show (o p).1=L;rw [op]))
  refine ⟨?_,(hdr.only L).trans hst⟩
  refine ⟨.slice none 0 0,[],Ai (i:=5) _ (Ai (i:=6) _ (Ai (i:=4) _ hp)),World.ownsRow_nil _ _ _ _,JG.nil _ _,op,fun k hk=>by simp [Value.ownBlock] at hk, ?_⟩
  obtain ⟨g1,g2,g3,g4,g5,g6,g7⟩:=hwf
  exact ⟨g1,g2,g3,by show 1 ≤ 1;omega,by show 1 ≤ m.n;omega,by show 0+1 ≤ 1;omega,fun r hr=>by simp [Ad.Hr] at hr⟩
 have hE:Ad.Hr (m,d)=(({ m with Dx:=true,records:=[],end':=1 },d),0):=rfl
 have hEH:=hidden hE
 have uF:=fun x (hx:Step (Only L) w o x o)=>hdk.step hx (fun e=>hLD e.symm)
 have AbK:=hidden uF
 obtain ⟨rv,vs,⟨c0,c1,c2,c3,c4,c5,c6,c7⟩,hf, -⟩:=pK.open
 have f4:=hf 4
 have f5:=hf 5
 have f6:=hf 6
 clear hE uF hf c0 c1 c2 c3 c7 pK hdk hl
 go_enter func240,ntmps240
 go_wp2_with fail
 refine Aa (fun w'=>w'.cell? ⟨bl,0,none⟩=some (.pointer (some ⟨p,0,none⟩))) (fun _=>true) (by kernel_rfl) cl (fun hHeld => ?_)
 refine tq 0 (h:=tq 1 (h:=tq 2 (h:=tq 3 (h:=tq 4 (h:=?_)))))
 have k1:(w.drew.setCell ⟨p,4,none⟩ (.bool true)).cell? ⟨bl,0,none⟩=some (.pointer (some ⟨p,0,none⟩)):=by rw [World.cell?_setCell_other _ _ _ _ (by simp)];exact hHeld
 have k2:((w.drew.setCell ⟨p,4,none⟩ (.bool true)).setCell ⟨p,6,none⟩ (.slice none 0 0)).cell? ⟨bl,0,none⟩=some (.pointer (some ⟨p,0,none⟩)):=by rw [World.cell?_setCell_other _ _ _ _ (by simp)];exact k1
 have k3:(((w.drew.setCell ⟨p,4,none⟩ (.bool true)).setCell ⟨p,6,none⟩ (.slice none 0 0)).setCell ⟨p,5,none⟩ (.int .i64 1)).cell? ⟨bl,0,none⟩=some (.pointer (some ⟨p,0,none⟩)):=by rw [World.cell?_setCell_other _ _ _ _ (by simp)];exact k2
 have K1:=hidden k1
 have K2:=hidden k2
 have K3:=hidden k3
 clear k1 k2 k3 hHeld cl
 refine tO 5 (h:=?_)
 go_wp2_with fail
 refine ⟨fun _=>K1.out, ?_⟩
 have kk1:=K1.out
 refine tq 6 (h:=tq 7 (h:=?_))
 clear kk1
 refine tO 8 (h:=?_)
 go_wp2_with fail
 refine ⟨fun _=>K2.out, ?_⟩
 have kk2:=K2.out
 refine tq 9 (h:=tq 10 (h:=?_))
 clear kk2
 refine tO 11 (h:=?_)
 go_wp2_with fail
 refine ⟨fun _=>K3.out, ?_⟩
 refine tD (h:=?_)
 clear c4 c5 c6 f4 f5 f6
 go_wp2_with fail
 go_ret
 rw [hEH.out]
 refine ⟨_,o,rfl,hfin.out.2.yG,rfl, ?_,AbK.out _ hfin.out.2⟩
 have h:=hfin.out.1
 rw [hEH.out] at h
 exact h
end
namespace Ad
theorem Pv (X:BitVec 64) (k:Nat):∀ (l:List AA) (i:Nat),run X k i l=true ↔ ∀ j y,l[j]?=some y→y.stamp=X∧y.at'=i+j∧y.of'=k
 | [],i=>by simp [run]
 | x :: r,i=>by
  simp only [run,Bool.and_eq_true,beq_iff_eq,Pv X k r (i+1)]
  constructor
  ·rintro ⟨⟨⟨h1,h2⟩,h3⟩,h4⟩ j y hy
   cases j with
   | zero=>simp only [List.getElem?_cons_zero,Option.some.injEq] at hy;subst hy;exact ⟨h1,by omega,h3⟩
   | succ j=>obtain ⟨a,b,c⟩:=h4 j y (by simpa using hy);exact ⟨a,by omega,c⟩
  ·intro h
   obtain ⟨a,b,c⟩:=h 0 x rfl
   refine ⟨⟨⟨a,by omega⟩,c⟩,fun j y hy => ?_⟩
   obtain ⟨a,b,c⟩:=h (j+1) y (by simpa using hy)
   exact ⟨a,by omega,c⟩
theorem Kv {α:Type} (l:List α) (e k j:Nat):((l.drop e).take k)[j]?=if j<k then l[e+j]? else none:=by
 rw [List.getElem?_take];split <;> simp
theorem DW {leaves:List AA} {e:Nat} {last X:BitVec 64} {k:Nat} {b:List UInt8} (h:accept leaves e last=some (k,X,b)) :
  1 ≤ k∧e+k ≤ leaves.length∧last.toNat<X.toNat∧(∀ i,i<k→∃ y,leaves[e+i]?=some y∧y.stamp=X∧y.at'=i∧y.of'=k)∧b=((leaves.drop e).take k).flatMap AA.bytes:=by
 unfold accept at h
 split at h
 ·cases h
 ·rename_i x hx
  split at h
  ·cases h
  ·rename_i hc
   split at h
   ·rename_i hr
    simp only [Option.some.injEq,Prod.mk.injEq] at h
    obtain ⟨rfl,rfl,rfl⟩:=h
    have he:e<leaves.length:=(List.getElem?_eq_some_iff.1 hx).1
    refine ⟨by omega,by omega,by omega, ?_,rfl⟩
    intro i hi
    have hlt:e+i<leaves.length:=by omega
    have:=(Pv _ _ _ 0).1 hr i leaves[e+i] (by rw [Kv,if_pos hi,List.getElem?_eq_getElem hlt])
    exact ⟨_,List.getElem?_eq_getElem hlt,this.1,by omega,this.2.2⟩
   ·cases h
theorem Hl {leaves:List AA} {e:Nat} {last X:BitVec 64} {k:Nat} (h1:1 ≤ k) (h2:e+k ≤ leaves.length) (h3:last.toNat<X.toNat)
  (h4:∀ i,i<k→∃ y,leaves[e+i]?=some y∧y.stamp=X∧y.at'=i∧y.of'=k):accept leaves e last=some (k,X,((leaves.drop e).take k).flatMap AA.bytes):=by
 obtain ⟨x,hx,e1,e2,e3⟩:=h4 0 (by omega)
 rw [Nat.add_zero] at hx
 unfold accept
 rw [hx]
 simp only
 rw [e1,e3,if_neg (by omega),if_pos]
 rw [Pv]
 intro j y hy
 rw [Kv] at hy
 split at hy
 ·rename_i hj
  obtain ⟨z,hz,q1,q2,q3⟩:=h4 j hj
  rw [hy] at hz
  simp only [Option.some.injEq] at hz
  subst hz
  exact ⟨q1,by omega,q3⟩
 ·cases hy
theorem Pm {α:Type} {l l2:List α} {m:Nat} (h:l2.take m=l.take m) {j:Nat} (hj:j<m):l2[j]?=l[j]?:=by
 have:=congrArg (·[j]?) h
 simp only [List.getElem?_take,if_pos hj] at this
 exact this
theorem Yf {α:Type} {l l2:List α} {m:Nat} (h:l2.take m=l.take m) {e k:Nat} (hj:e+k ≤ m):(l2.drop e).take k=(l.drop e).take k:=by
 apply List.ext_getElem?
 intro i
 rw [Kv,Kv]
 split
 ·exact Pm h (by omega)
 ·rfl
theorem Ub {leaves l2:List AA} {e m:Nat} {last X:BitVec 64} {k:Nat} {b:List UInt8} (h:accept leaves e last=some (k,X,b)) (ht:l2.take m=leaves.take m) (hm:e+k ≤ m) (hl:m ≤ l2.length) :
  accept l2 e last=some (k,X,b):=by
 obtain ⟨h1,h2,h3,h4,rfl⟩:=DW h
 rw [Hl h1 (by omega) h3 (fun i hi=>by rw [Pm ht (by omega)];exact h4 i hi),Yf ht hm]
theorem Gq (leaves:List AA):∀ (f:Nat) (s:Nat × BitVec 64 × List (List UInt8)),s.1 ≤ (Eb leaves f s).1∧(s.1 ≤ leaves.length→(Eb leaves f s).1 ≤ leaves.length)
 | 0,s=>⟨Nat.le_refl _,fun h=>h⟩
 | f+1,s=>by
  unfold Eb
  cases h:accept leaves s.1 s.2.1 with
  | none=>exact ⟨Nat.le_refl _,fun h=>h⟩
  | some r =>
   obtain ⟨k,X,b⟩:=r
   obtain ⟨h1,h2,_⟩:=DW h
   have:=Gq leaves f (s.1+k,X,s.2.2++[b])
   exact ⟨by have:=this.1;simp only at this ⊢;omega,fun _=>this.2 h2⟩
theorem Rt (leaves:List AA):∀ (f:Nat) (s:Nat × BitVec 64 × List (List UInt8)),leaves.length - s.1 ≤ f→accept leaves (Eb leaves f s).1 (Eb leaves f s).2.1=none
 | 0,s,hf=>by
  unfold Eb accept
  rw [List.getElem?_eq_none (by omega)]
 | f+1,s,hf=>by
  unfold Eb
  cases h:accept leaves s.1 s.2.1 with
  | none=>exact h
  | some r =>
   obtain ⟨k,X,b⟩:=r
   obtain ⟨h1,h2,_⟩:=DW h
   exact Rt leaves f _ (by simp only;omega)
theorem Gp {leaves:List AA} {s:Nat × BitVec 64 × List (List UInt8)} (h:accept leaves s.1 s.2.1=none):∀ f,Eb leaves f s=s
 | 0=>rfl
 | f+1=>by unfold Eb;rw [h]
theorem LC {leaves:List AA} {s:Nat × BitVec 64 × List (List UInt8)} {r:Nat × BitVec 64 × List UInt8} (h:accept leaves s.1 s.2.1=some r) (f:Nat) :
  Eb leaves (f+1) s=Eb leaves f (s.1+r.1,r.2.1,s.2.2++[r.2.2]):=by
 conv=>lhs;unfold Eb
 rw [h]
theorem MC (leaves l2:List AA):∀ (f f2:Nat) (s:Nat × BitVec 64 × List (List UInt8)),l2.length - s.1 ≤ f2→l2.take (Eb leaves f s).1=leaves.take (Eb leaves f s).1→(Eb leaves f s).1 ≤ l2.length →
  ∃ f3,l2.length - (Eb leaves f s).1 ≤ f3∧Eb l2 f2 s=Eb l2 f3 (Eb leaves f s)
 | 0,f2,s,h2,_,_=>⟨f2,h2,rfl⟩
 | f+1,f2,s,h2,ht,hl=>by
  cases h:accept leaves s.1 s.2.1 with
  | none=>rw [Gp h] at ht hl ⊢;exact ⟨f2,h2,rfl⟩
  | some r =>
   obtain ⟨k,X,b⟩:=r
   rw [LC h] at ht hl ⊢
   obtain ⟨h1,h3,_⟩:=DW h
   have hm:=(Gq leaves f (s.1+k,X,s.2.2++[b])).1
   simp only at hm ht hl
   have hc:=Ub h ht hm hl
   cases f2 with
   | zero=>omega
   | succ f2 =>
    obtain ⟨f3,q1,q2⟩:=MC leaves l2 f f2 (s.1+k,X,s.2.2++[b]) (by simp only;omega) ht hl
    exact ⟨f3,q1,(LC hc f2).trans q2⟩
theorem Pz (leaves:List AA):∀ (f:Nat) (s:Nat × BitVec 64 × List (List UInt8)) (m:Nat),s.2.1.toNat ≤ m→(∀ y ∈ leaves,y.stamp.toNat ≤ m)→(Eb leaves f s).2.1.toNat ≤ m
 | 0,s,m,h,_=>h
 | f+1,s,m,h,hy=>by
  unfold Eb
  cases hc:accept leaves s.1 s.2.1 with
  | none=>exact h
  | some r =>
   obtain ⟨k,X,b⟩:=r
   obtain ⟨h1,h3,_,h4,_⟩:=DW hc
   refine Pz leaves f _ m ?_ hy
   obtain ⟨y,hy1,hy2,_⟩:=h4 0 (by omega)
   rw [←hy2]
   exact hy y (List.mem_of_getElem? hy1)
theorem KZ {α:Type} (p:α→Bool):∀ (l:List α) (j:Nat),j<(l.takeWhile p).length→(l.takeWhile p)[j]?=l[j]?
 | [],j,h=>by simp at h
 | x :: r,j,h=>by
  rw [List.takeWhile_cons] at h ⊢
  split at h
  ·rename_i hx
   rw [if_pos hx]
   cases j with
   | zero=>rfl
   | succ j=>simp only [List.getElem?_cons_succ];exact KZ p r j (by simpa using h)
  ·simp at h
theorem FX {α:Type} (p:α→Bool):∀ (l:List α) (j:Nat),j<(l.takeWhile p).length ↔ ∀ i,i ≤ j→∃ x,l[i]?=some x∧p x=true
 | [],j=>by
  constructor
  ·intro h;simp at h
  ·intro h;obtain ⟨x,hx,_⟩:=h 0 (by omega);simp at hx
 | x :: r,j=>by
  rw [List.takeWhile_cons]
  split
  ·rename_i hx
   cases j with
   | zero =>
    constructor
    ·intro _ i hi;obtain rfl:i=0:=by omega
     exact ⟨x,rfl,hx⟩
    ·intro _;simp
   | succ j =>
    simp only [List.length_cons,Nat.add_lt_add_iff_right,FX p r j]
    constructor
    ·intro h i hi
     cases i with
     | zero=>exact ⟨x,rfl,hx⟩
     | succ i=>simpa using h i (by omega)
    ·intro h i hi
     simpa using h (i+1) (by omega)
  ·rename_i hx
   constructor
   ·intro h;simp at h
   ·intro h
    obtain ⟨y,hy,hp⟩:=h 0 (by omega)
    simp only [List.getElem?_cons_zero,Option.some.injEq] at hy
    subst hy;exact absurd hp hx
theorem Ff (pages:List (List UInt8)) (j:Nat):j<(Ah pages).length ↔ ∀ i,i ≤ j→∃ p,pages[i]?=some p∧(CE p).2=true:=by
 unfold Ah;rw [List.length_map];exact FX _ _ _
theorem Gu {pages:List (List UInt8)} {j:Nat} {y:AA} (h:(Ah pages)[j]?=some y):∃ p,pages[j]?=some p∧(CE p).2=true∧y=(CE p).1:=by
 have hj:j<(Ah pages).length:=(List.getElem?_eq_some_iff.1 h).1
 obtain ⟨p,hp,ho⟩:=(Ff pages j).1 hj j (Nat.le_refl _)
 unfold Ah at h hj
 rw [List.length_map] at hj
 rw [List.getElem?_map,KZ _ _ _ hj,hp] at h
 simp only [Option.map_some,Option.some.injEq] at h
 exact ⟨p,hp,ho,h.symm⟩
theorem IQ {pages:List (List UInt8)} {j:Nat} {p:List UInt8} (hj:j<(Ah pages).length) (hp:pages[j]?=some p):(Ah pages)[j]?=some (CE p).1:=by
 obtain ⟨q,hq,_,e⟩:=Gu (List.getElem?_eq_getElem hj)
 rw [hp] at hq
 simp only [Option.some.injEq] at hq
 subst hq
 rw [List.getElem?_eq_getElem hj,e]
theorem TK {pages Aat:List (List UInt8)} {m:Nat} (h:∀ j,j<m→Aat[j]?=pages[j]?) (hm:m ≤ (Ah pages).length) :
  m ≤ (Ah Aat).length∧(Ah Aat).take m=(Ah pages).take m:=by
 have h1:m ≤ (Ah Aat).length:=by
  cases m with
  | zero=>omega
  | succ m =>
   have:=(Ff pages m).1 hm
   have:m<(Ah Aat).length:=(Ff Aat m).2 fun i hi=>by rw [h i (by omega)];exact this i hi
   exact this
 refine ⟨h1,List.ext_getElem? fun j => ?_⟩
 rw [List.getElem?_take,List.getElem?_take]
 split
 ·rename_i hj
  obtain ⟨p,hp,_⟩:=(Ff pages j).1 (by omega) j (Nat.le_refl _)
  rw [IQ (by omega) hp,IQ (by omega) (by rw [h j hj];exact hp)]
 ·rfl
theorem Jc (a b:BitVec 64):(KX a b).toNat=max a.toNat b.toNat:=by unfold KX;split <;> omega
theorem TA (pages:List (List UInt8)):∀ s:BitVec 64,(pages.foldl (fun s p=>KX (KX s (num (p.take 8))) (num (p.drop 504))) s).toNat=pages.foldl (fun s p=>max (max s (num (p.take 8)).toNat) (num (p.drop 504)).toNat) s.toNat:=by
 induction pages with
 | nil=>intro s;rfl
 | cons p r ih=>intro s;simp only [List.foldl_cons];rw [ih,Jc,Jc]
theorem Aen {pages:List (List UInt8)} {m:Nat}:(newest pages).toNat ≤ m ↔ ∀ p ∈ pages,(num (p.take 8)).toNat ≤ m∧(num (p.drop 504)).toNat ≤ m:=by
 unfold newest
 rw [TA]
 have:∀ (pages:List (List UInt8)) (s:Nat),pages.foldl (fun s p=>max (max s (num (p.take 8)).toNat) (num (p.drop 504)).toNat) s ≤ m ↔ s ≤ m∧∀ p ∈ pages,(num (p.take 8)).toNat ≤ m∧(num (p.drop 504)).toNat ≤ m:=by
  intro pages
  induction pages with
  | nil=>intro s;simp
  | cons p r ih =>
   intro s
   simp only [List.foldl_cons,ih,List.mem_cons,forall_eq_or_imp]
   constructor
   ·rintro ⟨a,b⟩;exact ⟨by omega,⟨by omega,by omega⟩,b⟩
   ·rintro ⟨a,⟨b,c⟩,d⟩;exact ⟨by omega,d⟩
 rw [this]
 constructor
 ·exact fun h=>h.2
 ·exact fun h=>⟨by simp,h⟩
theorem Fe {pages:List (List UInt8)} {p:List UInt8} (h:p ∈ pages):(num (p.take 8)).toNat ≤ (newest pages).toNat∧(num (p.drop 504)).toNat ≤ (newest pages).toNat:=
 Aen.1 (Nat.le_refl _) p h
theorem Il {p:List UInt8} (h:(CE p).2=true):(CE p).1.stamp=num (p.take 8):=by
 rw [(Lp h).1];rfl
theorem XM {pages:List (List UInt8)} {y:AA} (h:y ∈ Ah pages):y.stamp.toNat ≤ (newest pages).toNat:=by
 obtain ⟨j,hj⟩:=List.mem_iff_getElem?.1 h
 obtain ⟨p,hp,ho,rfl⟩:=Gu hj
 rw [Il ho]
 exact (Fe (List.mem_of_getElem? hp)).1
theorem TS (pages:List (List UInt8)):(AaJ (Ah pages)).toNat ≤ (newest pages).toNat:=by
 cases h:Ah pages with
 | nil=>simp [AaJ]
 | cons x r=>exact XM (y:=x) (by rw [h];simp)
theorem CX (b:List UInt8) (i:Nat):(part b i).length ≤ 480:=by simp only [part,List.length_take];omega
theorem PI (b:List UInt8):∀ k:Nat,(List.range k).flatMap (part b)=b.take (480*k)
 | 0=>by simp
 | k+1=>by
  rw [List.range_succ,List.flatMap_append,PI b k]
  simp only [List.flatMap_cons,List.flatMap_nil,List.append_nil,part]
  rw [show 480*(k+1)=480*k+480 from by omega,List.take_add]
theorem parts_all (b:List UInt8):(List.range (many b)).flatMap (part b)=b:=by
 rw [PI,List.take_of_length_le]
 unfold many;omega
theorem Ko (b:List UInt8):1 ≤ many b:=by unfold many;omega
theorem PW {ls:List AA} (h:Di ls=true):1 ≤ ls.length:=by cases ls with
 | nil=>cases h
 | cons x r=>simp
theorem Vx {ls l2:List AA} {m:Nat} (h:l2.take m=ls.take m) (hm:1 ≤ m):Di l2=Di ls∧AaJ l2=AaJ ls:=by
 have:=Pm h (j:=0) (by omega)
 cases ls with
 | nil=>cases l2 with
  | nil=>exact ⟨rfl,rfl⟩
  | cons y r=>simp at this
 | cons x s=>cases l2 with
  | nil=>simp at this
  | cons y r =>
   simp only [List.getElem?_cons_zero,Option.some.injEq] at this
   subst this;exact ⟨rfl,rfl⟩
theorem Oj {pages Aat:List (List UInt8)} {S:BitVec 64} {b:List UInt8} (hh:Di (Ah pages)=true) (hS:(newest pages).toNat<S.toNat) (hk:many b<65536)
  (hout:∀ j,(j<(readAll (Ah pages)).1 ∨ (readAll (Ah pages)).1+many b ≤ j)→Aat[j]?=pages[j]?)
  (hin:∀ i,i<many b→∃ p',Aat[(readAll (Ah pages)).1+i]?=some p'∧(pages[(readAll (Ah pages)).1+i]?=some p' ∨ p'=AA.page ⟨S,i,many b,part b i⟩ ∨ (CE p').2=false)) :
  Di (Ah Aat)=true ∧
  ((readAll (Ah Aat)=readAll (Ah pages)∧¬ ∀ i,i<many b→Aat[(readAll (Ah pages)).1+i]?=some (AA.page ⟨S,i,many b,part b i⟩)) ∨
   ((readAll (Ah Aat)).1=(readAll (Ah pages)).1+many b∧(readAll (Ah Aat)).2.2=(readAll (Ah pages)).2.2++[b])):=by
 have hl1:=PW hh
 have hle:=(Gq (Ah pages) (Ah pages).length (1,AaJ (Ah pages),[])).2 hl1
 have hge:=(Gq (Ah pages) (Ah pages).length (1,AaJ (Ah pages),[])).1
 have hend:=Rt (Ah pages) (Ah pages).length (1,AaJ (Ah pages),[]) (by simp only;omega)
 have hlast:=Pz (Ah pages) (Ah pages).length (1,AaJ (Ah pages),[]) (newest pages).toNat (TS pages) (fun y hy=>XM hy)
 change (readAll (Ah pages)).1 ≤ _ at hle
 change 1 ≤ (readAll (Ah pages)).1 at hge
 change accept _ (readAll (Ah pages)).1 (readAll (Ah pages)).2.1=none at hend
 change (readAll (Ah pages)).2.1.toNat ≤ _ at hlast
 obtain ⟨⟨e,last,rs⟩,hq⟩:∃ q,readAll (Ah pages)=q:=⟨_,rfl⟩
 rw [hq] at hout hin hle hge hend hlast ⊢
 simp only at hout hin hle hge hend hlast ⊢
 obtain ⟨a1,a2⟩:=TK (pages:=pages) (Aat:=Aat) (m:=e) (fun j hj=>hout j (.inl hj)) hle
 obtain ⟨b1,b2⟩:=Vx a2 hge
 refine ⟨b1.trans hh, ?_⟩
 have hpre:=MC (Ah pages) (Ah Aat) (Ah pages).length (Ah Aat).length (1,AaJ (Ah pages),[]) (by simp only;omega)
  (by change (Ah Aat).take (readAll (Ah pages)).1=(Ah pages).take (readAll (Ah pages)).1;rw [hq];exact a2) (by change (readAll (Ah pages)).1 ≤ _;rw [hq];exact a1)
 obtain ⟨f3,g1,g2⟩:=hpre
 change _ - (readAll (Ah pages)).1 ≤ f3 at g1
 change _=Eb (Ah Aat) f3 (readAll (Ah pages)) at g2
 rw [hq] at g1 g2
 rw [←b2] at g2
 change readAll (Ah Aat)=_ at g2
 rw [g2]
 simp only at g1
 have hkp:=Ko b
 have hnew:∀ j y,(Ah Aat)[j]?=some y→y.stamp=S→e ≤ j∧j<e+many b∧y=⟨S,j - e,many b,part b (j - e)⟩:=by
  intro j y hy hys
  obtain ⟨p,hp,ho,rfl⟩:=Gu hy
  have hold:pages[j]?=some p→False:=fun h=>by
   have:=(Fe (List.mem_of_getElem? h)).1
   rw [Il ho] at hys
   rw [hys] at this;omega
  by_cases hj:e ≤ j∧j<e+many b
  ·obtain ⟨p',hp',hx⟩:=hin (j - e) (by omega)
   rw [show e+(j - e)=j from by omega] at hp' hx
   rw [hp] at hp'
   simp only [Option.some.injEq] at hp'
   subst hp'
   rcases hx with hx | hx | hx
   ·exact (hold hx).elim
   ·refine ⟨hj.1,hj.2, ?_⟩
    have h0:S ≠ 0#64:=by rintro rfl;simp at hS
    rw [hx,AA.Hq ⟨h0,by show j - e<65536;omega,hk,CX _ _⟩]
   ·rw [hx] at ho;cases ho
  ·exact (hold (by rw [←hout j (by omega)];exact hp)).elim
 have AoL:∀ (j:Nat) (y:AA),(Ah Aat)[j]?=some y→y.stamp ≠ S→∃ p:List UInt8,pages[j]?=some p∧Aat[j]?=some p∧(CE p).2=true∧y=(CE p).1:=by
  intro j y hy hys
  obtain ⟨p,hp,ho,rfl⟩:=Gu hy
  by_cases hj:e ≤ j∧j<e+many b
  ·obtain ⟨p',hp',hx⟩:=hin (j - e) (by omega)
   rw [show e+(j - e)=j from by omega] at hp' hx
   rw [hp] at hp'
   simp only [Option.some.injEq] at hp'
   subst hp'
   rcases hx with hx | hx | hx
   ·exact ⟨_,hx,hp,ho,rfl⟩
   ·have h0:S ≠ 0#64:=by rintro rfl;simp at hS
    rw [hx,AA.Hq ⟨h0,by show j - e<65536;omega,hk,CX _ _⟩] at hys
    exact (hys rfl).elim
   ·rw [hx] at ho;cases ho
  ·exact ⟨p,by rw [←hout j (by omega)];exact hp,hp,ho,rfl⟩
 cases hac:accept (Ah Aat) e last with
 | none =>
  left
  rw [Gp (s:=(e,last,rs)) hac]
  refine ⟨rfl,fun hall => ?_⟩
  have hlen:e+many b ≤ (Ah Aat).length:=by
   have:e+many b - 1<(Ah Aat).length:=(Ff _ _).2 fun i hi=>by
    by_cases hie:i<e
    ·exact (Ff Aat i).1 (by omega) i (Nat.le_refl _)
    ·refine ⟨_,(by have:=hall (i - e) (by omega);rwa [show e+(i - e)=i from by omega] at this), ?_⟩
     have h0:S ≠ 0#64:=by rintro rfl;simp at hS
     rw [AA.Hq ⟨h0,by show i - e<65536;omega,hk,CX _ _⟩]
   omega
  have:=Hl (leaves:=Ah Aat) (e:=e) (last:=last) (X:=S) (k:=many b) hkp hlen (by omega) fun i hi=>by
   have h0:S ≠ 0#64:=by rintro rfl;simp at hS
   have hy:=IQ (pages:=Aat) (j:=e+i) (by omega) (hall i hi)
   rw [AA.Hq ⟨h0,by show i<65536;omega,hk,CX _ _⟩] at hy
   exact ⟨_,hy,rfl,rfl,rfl⟩
  rw [hac] at this;cases this
 | some r =>
  obtain ⟨k,X,c⟩:=r
  obtain ⟨c1,c2,c3,c4,c5⟩:=DW hac
  by_cases hX:X=S
  ·subst hX
   right
   obtain ⟨y,hy,y1,y2,y3⟩:=c4 0 (by omega)
   obtain ⟨_,_,hy4⟩:=hnew _ y hy y1
   have hkm:k=many b:=by rw [←y3,hy4]
   subst hkm
   have hc:c=b:=by
    rw [c5]
    have:(List.take (many b) (List.drop e (Ah Aat)))=(List.range (many b)).map fun i=>(⟨X,i,many b,part b i⟩:AA):=by
     apply List.ext_getElem?
     intro i
     rw [Kv,List.getElem?_map]
     split
     ·rename_i hi
      obtain ⟨z,hz,z1,_⟩:=c4 i hi
      obtain ⟨_,_,hz4⟩:=hnew _ z hz z1
      rw [hz,hz4,List.getElem?_range hi]
      simp
     ·rename_i hi
      rw [List.getElem?_eq_none (by simp;omega)];rfl
    rw [this,List.flatMap_map]
    exact parts_all b
   subst hc
   have hstop:accept (Ah Aat) (e+many c) X=none:=by
    cases Arj:accept (Ah Aat) (e+many c) X with
    | none=>rfl
    | some r2 =>
     obtain ⟨k2,X2,d2⟩:=r2
     obtain ⟨d1,_,d3,d4,_⟩:=DW Arj
     obtain ⟨z,hz,z1,_⟩:=d4 0 (by omega)
     rw [Nat.add_zero] at hz
     have hz2:z.stamp ≠ X:=by rw [z1];rintro rfl;omega
     obtain ⟨p,hp,_,ho,rfl⟩:=AoL _ z hz hz2
     have:=(Fe (List.mem_of_getElem? hp)).1
     rw [Il ho] at z1
     rw [z1] at this;omega
   cases f3 with
   | zero=>omega
   | succ f3 =>
    unfold Eb
    rw [hac]
    simp only
    rw [Gp (s:=(e+many c,X,rs++[c])) hstop]
    exact ⟨rfl,rfl⟩
  ·-- an elder record was there already
   exfalso
   have hall:∀ i,i<k→∃ p:List UInt8,pages[e+i]?=some p∧(CE p).2=true∧∃ y,(Ah Aat)[e+i]?=some y∧y=(CE p).1:=by
    intro i hi
    obtain ⟨y,hy,y1,_⟩:=c4 i hi
    obtain ⟨p,hp,_,ho,e1⟩:=AoL _ y hy (by rw [y1];exact hX)
    exact ⟨p,hp,ho,y,hy,e1⟩
   have hlen:e+k ≤ (Ah pages).length:=by
    have:e+k - 1<(Ah pages).length:=(Ff _ _).2 fun i hi=>by
     by_cases hie:i<e
     ·exact (Ff pages i).1 (by omega) i (Nat.le_refl _)
     ·obtain ⟨p,hp,ho,_⟩:=hall (i - e) (by omega)
      rw [show e+(i - e)=i from by omega] at hp
      exact ⟨p,hp,ho⟩
    omega
   have:=Hl (leaves:=Ah pages) (e:=e) (last:=last) (X:=X) (k:=k) c1 hlen c3 fun i hi=>by
    obtain ⟨p,hp,ho,y,hy,hye⟩:=hall i hi
    obtain ⟨y',hy',q⟩:=c4 i hi
    rw [hy] at hy'
    simp only [Option.some.injEq] at hy'
    subst hy'
    exact ⟨y,by rw [IQ (by omega) hp,hye],q⟩
   rw [hend] at this;cases this
theorem MB {pages Aat:List (List UInt8)} {S:BitVec 64} (hS:(newest pages).toNat<S.toNat) (hout:∀ j,1 ≤ j→Aat[j]?=pages[j]?)
  (hin:Aat[0]?=pages[0]? ∨ Aat[0]?=some (AA.page ⟨S,0,0,[]⟩) ∨ ∃ p,Aat[0]?=some p∧(CE p).2=false) :
  (Aat[0]?=some (AA.page ⟨S,0,0,[]⟩)→Di (Ah Aat)=true∧readAll (Ah Aat)=(1,S,[])) ∧
  (Aat[0]? ≠ some (AA.page ⟨S,0,0,[]⟩)→Ah Aat=Ah pages ∨ Ah Aat=[]):=by
 constructor
 ·intro h0
  have hS0:S ≠ 0#64:=by rintro rfl;simp at hS
  have hsaid:=AA.Hq (x:=⟨S,0,0,[]⟩) ⟨hS0,by show (0:Nat)<65536;omega,by show (0:Nat)<65536;omega,by simp⟩
  have hl:0<(Ah Aat).length:=(Ff _ _).2 fun i hi=>by
   obtain rfl:i=0:=by omega
   exact ⟨_,h0,by rw [hsaid]⟩
  have hg:=IQ hl h0
  rw [hsaid] at hg
  simp only at hg
  obtain ⟨x,r,hx⟩:∃ x r,Ah Aat=x :: r:=by
   cases h:Ah Aat with
   | nil=>rw [h] at hl;simp at hl
   | cons x r=>exact ⟨x,r,rfl⟩
  rw [hx] at hg
  simp only [List.getElem?_cons_zero,Option.some.injEq] at hg
  have hstop:accept (Ah Aat) 1 S=none:=by
   cases Arj:accept (Ah Aat) 1 S with
   | none=>rfl
   | some r2 =>
    obtain ⟨k2,X2,d2⟩:=r2
    obtain ⟨d1,_,d3,d4,_⟩:=DW Arj
    obtain ⟨z,hz,z1,_⟩:=d4 0 (by omega)
    rw [Nat.add_zero] at hz
    obtain ⟨p,hp,ho,rfl⟩:=Gu hz
    rw [hout 1 (by omega)] at hp
    have:=(Fe (List.mem_of_getElem? hp)).1
    rw [Il ho] at z1
    rw [z1] at this;omega
  have hhs:AaJ (Ah Aat)=S:=by rw [hx];subst hg;rfl
  refine ⟨by rw [hx];subst hg;rfl, ?_⟩
  unfold readAll
  rw [hhs,Gp (s:=(1,S,[])) hstop]
 ·intro h0
  rcases hin with h | h | ⟨p,hp,ho⟩
  ·left
   have:Aat=pages:=List.ext_getElem? fun j=>by
    cases j with
    | zero=>exact h
    | succ j=>exact hout _ (by omega)
   rw [this]
  ·exact (h0 h).elim
  ·right
   cases hq:Aat with
   | nil=>rfl
   | cons q r =>
    rw [hq] at hp
    simp only [List.getElem?_cons_zero,Option.some.injEq] at hp
    subst hp
    unfold Ah
    rw [List.takeWhile_cons,if_neg (by rw [ho];simp)];rfl
end Ad
section
variable {P:Program} {ops:Array Oper} {Q:Exit→Act→World→Prop} {md:Region.Mode} {N:Nat→World→Prop}
def Iz (P:Program) (md:Region.Mode) (ops:Array Oper) (Q:Exit→Act→World→Prop) (N:Nat→World→Prop):Nat→Array Bool→Act→World→Prop
 | 0,listed,a,w=>Region.ready md ops listed=[]∧Q .normal a w
 | fuel+1,listed,a,w =>
  (Region.ready md ops listed=[]→Q .normal a w) ∧
  ∀ i ∈ Region.ready md ops listed,wpOp P ops Q i (fun a' w'=>(w'=w ∨ N i w')∧Iz P md ops Q N fuel (listed.setIfInBounds i true) a' w') a w
theorem Pg:∀ (fuel:Nat) (listed:Array Bool) (a:Act) (w:World),Iz P md ops Q N fuel listed a w→wpAny P md ops Q fuel listed a w
 | 0,_,_,_,h=>h
 | fuel+1,_,_,_,h=>⟨h.1,fun i hi=>wpOp_mono (fun a' w' h'=>Pg fuel _ a' w' h'.2) (h.2 i hi)⟩
theorem Sm {i:Nat} {oi:Oper} {v:Value} (hi:ops[i]?=some oi) (hsel:∀ (j:Nat) (o:Oper) cs b,ops[j]?=some o→o.op ≠ .select cs b)
  (hQ:∀ c a w,Q (.panic c) (a.put oi.dst v) w→Q (.panic c) a w) {St:World→Prop} (hN:∀ (j:Nat) (w:World),JF md ops j i=false→N j w→St w) :
  ∀ (fuel:Nat) (listed:Array Bool) (a:Act) (w:World),
   (∀ j oj,ops[j]?=some oj→j ≠ i→listed.getD j true=false→(∀ e ∈ oj.after,Region.binds md e=true→e.on ≠ i)→oi.apart ops oj=true) →
   i ∈ Region.ready md ops listed→YieldsIf P ops St oi v a→St w →
   Iz P md ops Q N fuel (listed.setIfInBounds i true) (a.put oi.dst v) w→Iz P md ops Q N (fuel+1) listed a w:=by
 intro fuel
 induction fuel with
 | zero =>
  intro listed a w _ hr hy hS H
  refine ⟨fun h=>(by rw [h] at hr;cases hr),fun j hj => ?_⟩
  by_cases hji:j=i
  ·subst hji;exact hy.wpOp hi hS ⟨.inl rfl,H⟩
  ·have:=ready_mono hj hji
   rw [H.1] at this
   cases this
 | succ fuel ih =>
  intro listed a w hfree hr hy hS H
  refine ⟨fun h=>(by rw [h] at hr;cases hr),fun j hj => ?_⟩
  by_cases hji:j=i
  ·subst hji;exact hy.wpOp hi hS ⟨.inl rfl,H⟩
  ·have h1:=H.2 j (ready_mono hj hji)
   obtain ⟨hjun,oj,hoj,hall⟩:=mem_ready.1 hj
   have hnot:∀ e ∈ oj.after,Region.binds md e=true→e.on ≠ i:=fun e he hb heq=>by
    have h1:=hall e he hb
    have h0:=(mem_ready.1 hr).1
    rw [heq] at h1
    rcases Nat.lt_or_ge i listed.size with h' | h'
    ·simp [h'] at h0 h1;rw [h0] at h1;cases h1
    ·simp [Array.getElem?_eq_none h'] at h1
   have rX:JF md ops j i=false:=by
    unfold JF
    simp only [hoj]
    cases hq:(oj.after.any fun e=>Region.binds md e && e.on == i)
    ·rfl
    ·obtain ⟨e,he,hb⟩:=Array.any_eq_true'.1 hq
     simp only [Bool.and_eq_true,beq_iff_eq] at hb
     exact absurd hb.2 (hnot e he hb.1)
   have h2:=wpOp_putIf hoj (hfree j oj hoj hji hjun hnot) (fun cs b=>hsel i oi cs b hi) (fun cs b=>hsel j oj cs b hoj) hQ hy h1
   have hfree':∀ k ok,ops[k]?=some ok→k ≠ i→(listed.setIfInBounds j true).getD k true=false →
     (∀ e ∈ ok.after,Region.binds md e=true→e.on ≠ i)→oi.apart ops ok=true:=fun k ok hk hki hun hno=>by
    refine hfree k ok hk hki ?_ hno
    by_cases hjk:j=k
    ·subst hjk;exact hjun
    ·rw [getD_set_ne true hjk] at hun;exact hun
   refine wpOp_mono (fun a' w' h3=>⟨h3.2.1,ih (listed.setIfInBounds j true) a' w' hfree' (ready_mono hr (Ne.symm hji)) h3.1 (by rcases h3.2.1 with rfl | h4;exact hS;exact hN j w' rX h4) ?_⟩) h2
   rw [Array.setIfInBounds_comm _ _ hji]
   exact h3.2.2
theorem Nh {i lo hi:Nat} (h:((List.range hi).all fun j=>decide (j<lo) || JF md ops j i)=true) (j:Nat) (hd:JF md ops j i=false):j<lo ∨ hi ≤ j:=by
 by_cases h1:j<hi
 ·have:=List.all_eq_true.1 h j (List.mem_range.2 h1)
  simp only [hd,Bool.or_false,decide_eq_true_eq] at this
  exact .inl this
 ·exact .inr (by omega)
theorem AO {St:World→Prop} {i:Nat} {oi:Oper} {v:Value} {fuel:Nat} {listed:Array Bool} {a:Act} {w:World} (hi:(ops.toList.drop i).head?=some oi)
  (hs:Region.noSelect ops=true) (hf:Region.free md ops listed i=true) (hr:(Region.ready md ops listed).contains i=true)
  (hN:∀ (j:Nat) (w:World),JF md ops j i=false→N j w→St w)
  (hQ:∀ c a w,Q (.panic c) (a.put oi.dst v) w→Q (.panic c) a w) (hy:YieldsIf P ops St oi v a) (hS:St w)
  (h:Iz P md ops Q N fuel (listed.setIfInBounds i true) (a.put oi.dst v) w):Iz P md ops Q N (fuel+1) listed a w:=
 Sm (EX hi) (Region.noSelect_spec hs) hQ hN fuel listed a w (Region.free_spec (EX hi) hf) (by simpa using hr) hy hS h
theorem tG (i:Nat) {St:World→Prop} {oi:Oper} {v:Value} {fuel:Nat} {listed l2:Array Bool} {a a2:Act} {w:World}
  (hi:(ops.toList.drop i).head?=some oi:=by rfl)
  (hN:∀ (j:Nat) (w:World),JF md ops j i=false→N j w→St w:=by exact fun _ _ _ h=>h.1)
  (hS:St w:=by first | assumption | exact ⟨by assumption,by assumption⟩)
  (hc:(Region.noSelect ops && Region.free md ops listed i && (Region.ready md ops listed).contains i)=true:=by kernel_rfl)
  (hw:Region.wanted oi (yielded ops a.tmps)=true:=by rfl)
  (hy:∀ w,St w→(execOp a.eval oi).run P w = .ok (.value v) w:=by intro w hSw;(try dsimp only at hSw);go_simp;(try with_reducible rfl))
  (hQ:∀ c a w,Q (.panic c) (a.put oi.dst v) w→Q (.panic c) a w:=by exact fun _ _ _ h=>h)
  (ha:a.put oi.dst v=a2:=by (try simp only [Act.put,GL,DL,lss]);exact rfl)
  (hl:listed.setIfInBounds i true=l2:=by (try simp only [GL,DL,lss]);exact rfl)
  (h:Iz P md ops Q N fuel l2 a2 w):Iz P md ops Q N (fuel+1) listed a w:=by
 subst ha hl
 simp only [Bool.and_eq_true] at hc
 exact AO hi hc.1.1 hc.1.2 hc.2 hN hQ (.inl ⟨hw,hy⟩) hS h
theorem tT (i:Nat) {oi:Oper} {v:Value} {fuel:Nat} {listed l2:Array Bool} {a a2:Act} {w:World}
  (hi:(ops.toList.drop i).head?=some oi:=by rfl)
  (hc:(Region.noSelect ops && Region.free md ops listed i && (Region.ready md ops listed).contains i)=true:=by kernel_rfl)
  (hw:Region.wanted oi (yielded ops a.tmps)=true:=by rfl)
  (hy:∀ w,True→(execOp a.eval oi).run P w = .ok (.value v) w:=by intro w hSw;go_simp;(try with_reducible rfl))
  (hQ:∀ c a w,Q (.panic c) (a.put oi.dst v) w→Q (.panic c) a w:=by exact fun _ _ _ h=>h)
  (ha:a.put oi.dst v=a2:=by (try simp only [Act.put,GL,DL,lss]);exact rfl)
  (hl:listed.setIfInBounds i true=l2:=by (try simp only [GL,DL,lss]);exact rfl)
  (h:Iz P md ops Q N fuel l2 a2 w):Iz P md ops Q N (fuel+1) listed a w:=
 tG i hi (fun _ _ _ _=>trivial) trivial hc hw hy hQ ha hl h
theorem BX {i:Nat} {oi:Oper} {fuel:Nat} {listed:Array Bool} {a:Act} {w:World} (hi:(ops.toList.drop i).head?=some oi) (hr:Region.ready md ops listed=[i])
  (h:wpList P ops (Exit.then (fun a' w'=>(w'=w ∨ N i w')∧Iz P md ops Q N fuel (listed.setIfInBounds i true) a' w') Q) [oi] a w):Iz P md ops Q N (fuel+1) listed a w:=by
 refine ⟨fun h0=>(by rw [hr] at h0;cases h0),fun j hj => ?_⟩
 rw [hr] at hj
 simp only [List.mem_singleton] at hj
 subst hj
 exact LY (EX hi) h
theorem JI {listed:Array Bool} {a:Act} {w:World} (hr:Region.ready md ops listed=[]) (h:Q .normal a w):∀ fuel,Iz P md ops Q N fuel listed a w
 | 0=>⟨hr,h⟩
 | _+1=>⟨fun _=>h,by rw [hr];simp⟩
theorem JH {id:Nat} {a:Act} {w:World} (N:Nat→World→Prop) (hm:P.follows .mixedOrders=true)
  (h:Iz P .any ops Q N ops.size (Array.replicate ops.size false) a w.drew):(Code.region id ops true).wp P Q a w:=
 wp_region_any hm (Pg _ _ _ _ h)
end
theorem Atb:(prog.info? 29).map (fun i=>(i.zero.map (fun z=>z.cells.toList),i.size,i.bytes))=some (some [.slice none 0 0],1,24):=by kernel_rfl
theorem Ey.snoc {w:World} {o:Own} {vs:List Value} {ls:List (List UInt8)} {v:Value} {l:List UInt8} (h:Ey w o vs ls) (hb:Bytes w o v l):Ey w o (vs++[v]) (ls++[l]):=by
 refine ⟨by simp [h.1],fun i v' l' hv hl => ?_⟩
 by_cases hi:i<vs.length
 ·rw [List.getElem?_append_left hi] at hv
  rw [List.getElem?_append_left (by rw [←h.1];exact hi)] at hl
  exact h.2 i v' l' hv hl
 ·rw [List.getElem?_append_right (by omega)] at hv
  rw [List.getElem?_append_right (by rw [←h.1];omega), ←h.1] at hl
  cases hj:i - vs.length with
  | zero=>rw [hj] at hv hl;simp at hv hl;subst hv;subst hl;exact hb
  | succ j=>rw [hj] at hv;simp at hv
theorem JG.snoc {w:World} {o:Own} {vs:List Value} {ls:List (List UInt8)} {v:Value} {l:List UInt8} (h:JG w o vs ls) (hb:Bytes w o v l) (hm:Mine w o v):JG w o (vs++[v]) (ls++[l]):=
 ⟨h.1.snoc hb,fun x hx=>by
  rcases List.mem_append.1 hx with hx | hx
  ·exact h.2 x hx
  ·simp only [List.mem_singleton] at hx;subst hx;exact hm⟩
def Nb (W:World) (o:Own):Own:=fun k=>if k<W.heap.size then o k else (0,1)
theorem Xl {T:Nat→Prop} {w w':World} {o o':Own} {v:Value} {l:List UInt8} (hs:Step T w o w' o') (h:Ew w w' o' v l):∃ o2,Step T w o w' o2∧Bytes w' o2 v l∧Mine w' o2 v:=by
 refine ⟨Nb w o,⟨hs.os,hs.tape,hs.output,hs.size,fun k hk=>if_pos hk,hs.block⟩, ?_,fun b off n c e hn => ?_⟩
 ·rcases h.bytes with h0 | ⟨b,off,cap,e,h1,h2,h3,h4,h5⟩
  ·exact .inl h0
  ·refine .inr ⟨b,off,cap,e,h1,h2, ?_,h4,h5⟩
   have:=h.1.lt b (by rw [e];rfl)
   unfold Nb;rw [if_neg (by omega)]
 ·have:=h.1.lt b (by rw [e];rfl)
  exact ⟨this.2,by unfold Nb;rw [if_neg (by omega)]⟩
theorem FU (W:World) {base:Nat} (hbase:base ≤ W.heap.size) (v:Value) (n:Nat) (xs:List Value) (hown:W.ownsRow base 29 1 v n xs) (b:Nat) (x:Value) (hx:x.oneCell'=true) (hr:W.rangeAt b 0 [x]) (hn:n ≤ 1000000) :
  ∃ g cap w',(Builtin.append_ #[181,181] 181 #[v, .slice (some ⟨b,0,none⟩) 1 1]).run prog W = .ok (.slice (some ⟨g,0,none⟩) (n+1) cap) w' ∧
   w'.ownsRow base 29 1 (.slice (some ⟨g,0,none⟩) (n+1) cap) (n+1) (xs++[x])∧W.grownBy w' v.ownBlock∧(v.ownBlock=some g ∨ g=W.heap.size)∧g<w'.heap.size:=
 DD (P:=prog) W 181 181 29 underlying181 Atb rfl (by omega) hbase v n xs hown b 0 1 1 [x] rfl hr (by intro u hu;simp at hu;subst hu;exact hx) (by omega) (by omega) (by omega)
section
variable {w:World} {o:Own} {L D p pd:Nat} {s:Ad × Af}
theorem Yh (hL:L ≠ 0) (hLD:L ≠ D) (h:LD w o L D p pd s) (b:List UInt8) (bv:Value) (hb:Bytes w o bv b) (hroom:Ad.many b ≤ s.1.n - s.1.end') (rF:b.length ≤ 960000) (bl bb bm:Nat) (hl:Box w o bl 162 (.pointer (some ⟨p,0,none⟩))) (hbb:Box w o bb 29 bv) (hm:Box w o bm 3 (.int .i64 (Ad.many b:Int))) :
  Calls prog 239 #[.pointer (some ⟨bl,0,none⟩), .pointer (some ⟨bb,0,none⟩), .pointer (some ⟨bm,0,none⟩)] w (XL (In L D) w o fun v w' o'=>v = .int .i64 (Ad.step4 b s).2∧LD w' o' L D p pd (Ad.step4 b s).1):=by
 obtain ⟨m,d⟩:=s
 obtain ⟨pK,hdk⟩:=h
 simp only at pK hdk hroom
 have hwf:=pK.wf
 obtain ⟨g1,g2,g3,g4,g5,g6,g7⟩:=pK.wf
 have hmp:=Ad.Ko b
 have cl:=hl.cell
 have cb:=hbb.cell
 have cm:=hm.cell
 have tl:(o bl).1 ≠ L:=by rw [hl.2];exact fun e=>hL e.symm
 have tb:(o bb).1 ≠ L:=by rw [hbb.2];exact fun e=>hL e.symm
 have tm:(o bm).1 ≠ L:=by rw [hm.2];exact fun e=>hL e.symm
 have AbS:bl ≠ p:=by rintro rfl;have h1:=hl.2;have h2:=pK.wE;omega
 have AdQ:bb ≠ p:=by rintro rfl;have h1:=hbb.2;have h2:=pK.wE;omega
 have AdO:bm ≠ p:=by rintro rfl;have h1:=hm.2;have h2:=pK.wE;omega
 obtain ⟨k,hk⟩:∃ k,Ad.many b=k:=⟨_,rfl⟩
 have hE:Ad.step4 b (m,d)=(({ m with records:=m.records++[b],end':=m.end'+k },d),0):=by unfold Ad.step4;rw [hk]
 have hEH:=hidden hE
 rw [hk] at hroom hmp hm cm
 have hdr:Step Nobody w o w.drew o:=(Step.refl _ _ _).drew
 have AbC:=pK.step hdr id id
 have Aag:=hdk.step hdr id
 have hb1:=hb.step hdr id
 have hcl:=clone_any hb1 (by omega)
 obtain ⟨rv,vs,hp,hro,hv,op,wI, -⟩:=AbC
 have hadd:(m.end':Int)+(k:Int)=((m.end'+k:Nat):Int):=by omega
 have c5:w.drew.cell? ⟨p,5,none⟩=some (.int .i64 (m.end':Int)):=cell_of_block hp 5
 have c6:w.drew.cell? ⟨p,6,none⟩=some rv:=cell_of_block hp 6
 obtain ⟨ra,rc,hrv⟩:=BA hro
 have hbf:=Aq hb
 obtain ⟨ba,bc,rfl⟩:=hbf
 have wP:=hidden hro
 have hpH:=hidden hp
 have hvH:=hidden hv
 subst hrv
 have opH:=hidden op
 have hkH:=hidden hk
 clear hE hl hbb hm pK hdk hb hro hp hv op hk
 have he1:(m.end':Int) ≤ 2000:=by omega
 have hk1:(k:Int) ≤ 2000:=by omega
 have yF:IntKind.i64.wrap ((m.end':Int)+(k:Int))=((m.end'+k:Nat):Int):=by rw [wrap_i64 (by omega) (by omega)];omega
 have AcO:=hidden hadd
 have yE:=hidden yF
 clear hadd yF
 go_enter func239,ntmps239
 go_wp2_with fail
 have hK0:(w.drew.cell? ⟨bl,0,none⟩=some (.pointer (some ⟨p,0,none⟩))∧w.drew.cell? ⟨bb,0,none⟩=some (.slice ba b.length bc)∧w.drew.cell? ⟨bm,0,none⟩=some (.int .i64 (k:Int))):=⟨cl,cb,cm⟩
 have hC0:(w.drew.cell? ⟨p,5,none⟩=some (.int .i64 (m.end':Int))∧w.drew.cell? ⟨p,6,none⟩=some (.slice ra m.records.length rc)):=⟨c5,c6⟩
 refine JH (fun i w'=>(w'.cell? ⟨bl,0,none⟩=some (.pointer (some ⟨p,0,none⟩))∧w'.cell? ⟨bb,0,none⟩=some (.slice ba b.length bc)∧w'.cell? ⟨bm,0,none⟩=some (.int .i64 (k:Int)))∧(i<18 ∨ 22 ≤ i→(w'.cell? ⟨p,5,none⟩=some (.int .i64 (m.end':Int))∧w'.cell? ⟨p,6,none⟩=some (.slice ra m.records.length rc)))) (by kernel_rfl) ?_
 refine tG 0 (h:=?_)
 refine tG 1 (h:=?_)
 refine tG 2 (h:=?_)
 refine tT 3 (h:=tT 4 (h:=?_))
 refine tG 5 (hN:=by exact fun j w hd h=>aI h.1 (h.2 (Nh (lo:=18) (hi:=22) (by kernel_rfl) j hd))) (h:=?_)
 refine tG 6 (h:=?_)
 refine tG 10 (h:=?_)
 refine tT 11 (h:=tT 12 (h:=?_))
 refine tG 13 (hN:=by exact fun j w hd h=>aI h.1 (h.2 (Nh (lo:=18) (hi:=22) (by kernel_rfl) j hd))) (h:=?_)
 refine tG 14 (h:=?_)
 refine tT 15 (h:=?_)
 refine BX (i:=7) rfl (by kernel_rfl) ?_
 rw [yE.out]
 go_wp2_with fail
 refine hcl.mono ?_;rintro e w1 ⟨v1,o0',rfl,hs0',hn1⟩
 obtain ⟨o1,hs1,Ajk,zU⟩:=Xl hs0' hn1
 clear hs0' hn1
 obtain ⟨va,vc,rfl⟩:=Aq Ajk
 have hblt:=World.block_lt_of_cell? _ _ hK0.1
 have hpl:p<w.drew.heap.size:=lt_of_block hpH.out
 have keep:∀ (x y:World) (ox oy:Own),Step Nobody x ox y oy→w.drew.heap.size ≤ x.heap.size→((x.cell? ⟨bl,0,none⟩=some (.pointer (some ⟨p,0,none⟩))∧x.cell? ⟨bb,0,none⟩=some (.slice ba b.length bc)∧x.cell? ⟨bm,0,none⟩=some (.int .i64 (k:Int)))∧(x.cell? ⟨p,5,none⟩=some (.int .i64 (m.end':Int))∧x.cell? ⟨p,6,none⟩=some (.slice ra m.records.length rc)))→((y.cell? ⟨bl,0,none⟩=some (.pointer (some ⟨p,0,none⟩))∧y.cell? ⟨bb,0,none⟩=some (.slice ba b.length bc)∧y.cell? ⟨bm,0,none⟩=some (.int .i64 (k:Int)))∧(y.cell? ⟨p,5,none⟩=some (.int .i64 (m.end':Int))∧y.cell? ⟨p,6,none⟩=some (.slice ra m.records.length rc))):=fun x y ox oy hs hle h=>by
  have e1:=hs.block bl (Nat.lt_of_lt_of_le (World.block_lt_of_cell? _ _ hK0.1) hle) id
  have e2:=hs.block bb (Nat.lt_of_lt_of_le (World.block_lt_of_cell? _ _ hK0.2.1) hle) id
  have e3:=hs.block bm (Nat.lt_of_lt_of_le (World.block_lt_of_cell? _ _ hK0.2.2) hle) id
  have e4:=hs.block p (Nat.lt_of_lt_of_le hpl hle) id
  exact ⟨⟨(World.cell?_of_block (a:=⟨bl,0,none⟩) e1).trans h.1.1,(World.cell?_of_block (a:=⟨bb,0,none⟩) e2).trans h.1.2.1,(World.cell?_of_block (a:=⟨bm,0,none⟩) e3).trans h.1.2.2⟩,
   (World.cell?_of_block (a:=⟨p,5,none⟩) e4).trans h.2.1,(World.cell?_of_block (a:=⟨p,6,none⟩) e4).trans h.2.2⟩
 have vN:=keep _ _ _ _ hs1 (Nat.le_refl _) ⟨hK0,hC0⟩
 go_wp2_with fail
 refine ⟨.inr ⟨vN.1,fun _=>vN.2⟩, ?_⟩
 have hsz1:=hs1.size
 have rH:Step Nobody w1 o1 _ _:=(Step.refl _ w1 o1).alloc (.cells #[.slice va b.length vc] 29) (0,0)
 have rG:=keep _ _ _ _ rH hsz1 vN
 have hnb:(w1.alloc (.cells #[.slice va b.length vc] 29)).heap[w1.heap.size]?=some (.cells #[.slice va b.length vc] 29 (0,0)):=heap_alloc_new w1 _
 refine BX (i:=8) rfl (by kernel_rfl) ?_
 go_wp2_with fail
 refine ⟨.inr ⟨rG.1,fun _=>rG.2⟩, ?_⟩
 have hs2:=hs1.trans rH
 have hrow2:=Ci wP.out (fun k hk=>hs2.block k (wP.out.lt k hk).2 id)
 have yL:=hvH.out.step hs2 id
 have Aak:=Ajk.step rH id
 have zT:=zU.step rH
 have uF:=Aag.step hs2 id
 have hp2:=(hs2.block p hpl id).trans hpH.out
 have op2:=(hs2.own p hpl).trans opH.out
 have tX:∀ k,(Value.slice ra m.records.length rc).ownBlock=some k→Ak o1 w1.heap.size (0,0) k=(L,1):=fun k hk=>(hs2.own k (wP.out.lt k hk).2).trans (wI k hk)
 have hsT:=hdr.trans hs2
 generalize hW2:w1.alloc (.cells #[.slice va b.length vc] 29)=W2 at *
 generalize Ak o1 w1.heap.size (0,0)=o2 at *
 obtain ⟨g,cap,w3,hrun,hown3,hgrow,hat,hlt3⟩:=FU W2 (Nat.zero_le _) _ _ _ hrow2 w1.heap.size (.slice va b.length vc) rfl (AV (cs:=[.slice va b.length vc]) hnb) (by omega)
 have AdT:w1.heap.size<W2.heap.size:=lt_of_block hnb
 have hgt:o2 g=(L,1) ∨ W2.heap.size ≤ g:=by
  rcases hat with hat | hat
  ·exact .inl (tX g hat)
  ·exact .inr (by omega)
 have hs3:Step (Only L) W2 o2 w3 (Ak o2 g (L,1)):=(Step.refl (Only L) W2 o2).grown hgrow (fun k hk => .inl (by rw [tX k hk];rfl)) g (L,1) hgt
 have yZ:p<W2.heap.size:=lt_of_block hp2
 have xX:p ≠ g:=by
  rintro rfl
  rcases hgt with h1 | h1
  ·rw [op2] at h1;simp at h1
  ·omega
 have hp3:w3.heap[p]?=some (.cells (m.cells pd (.slice ra m.records.length rc)).toArray 233 (0,0)):=by
  rw [hgrow.block p yZ (by intro hx;have:=tX p hx.symm;rw [op2] at this;simp at this)];exact hp2
 have hN0:¬ Only L 0:=fun h=>hL h.symm
 have yK:=(yL.snoc Aak zT).step hs3 hN0
 have Aaf:=uF.step hs3 (fun e=>hLD e.symm)
 have nL:∀ k,k<W2.heap.size→¬ Only L (o2 k).1→w3.heap[k]?=W2.heap[k]?:=fun k hk ht=>hs3.block k hk ht
 have uU:∀ k,k<w.drew.heap.size→(o k).1 ≠ L→¬ Only L (o2 k).1:=fun k hk h hx=>h (by rw [←hs2.own k hk];exact hx)
 have wJ:w.drew.heap.size ≤ W2.heap.size:=hs2.size
 have kl:=World.block_lt_of_cell? _ _ hK0.1
 have kb:=World.block_lt_of_cell? _ _ hK0.2.1
 have km:=World.block_lt_of_cell? _ _ hK0.2.2
 have kp:w3.heap[p]?=W2.heap[p]?:=hp3.trans hp2.symm
 have hK3:(w3.cell? ⟨bl,0,none⟩=some (.pointer (some ⟨p,0,none⟩))∧w3.cell? ⟨bb,0,none⟩=some (.slice ba b.length bc)∧w3.cell? ⟨bm,0,none⟩=some (.int .i64 (k:Int)))∧(w3.cell? ⟨p,5,none⟩=some (.int .i64 (m.end':Int))∧w3.cell? ⟨p,6,none⟩=some (.slice ra m.records.length rc)):=⟨⟨(World.cell?_of_block (a:=⟨bl,0,none⟩) (nL bl (Nat.lt_of_lt_of_le kl wJ) (uU bl kl tl))).trans rG.1.1,(World.cell?_of_block (a:=⟨bb,0,none⟩) (nL bb (Nat.lt_of_lt_of_le kb wJ) (uU bb kb tb))).trans rG.1.2.1,(World.cell?_of_block (a:=⟨bm,0,none⟩) (nL bm (Nat.lt_of_lt_of_le km wJ) (uU bm km tm))).trans rG.1.2.2⟩,
   (World.cell?_of_block (a:=⟨p,5,none⟩) kp).trans rG.2.1,(World.cell?_of_block (a:=⟨p,6,none⟩) kp).trans rG.2.2⟩
 have Aax:=hidden hrun
 clear hrun hat hrow2 yL Aak uF rG vN hcl Ajk zU zT keep hnb hW2
 refine BX (i:=9) rfl (by kernel_rfl) ?_
 refine Bl Aax.out ?_
 refine wpList_nil ?_
 refine ⟨.inr ⟨hK3.1,fun _=>hK3.2⟩, ?_⟩
 simp only [Act.put,GL,DL,lss]
 have q5:=hK3.2.1
 have q6:=hK3.2.2
 have f5:=Ap hp3 5
 have f6:=Ap hp3 6
 have K4:((w3.setCell ⟨p,6,none⟩ (.slice (some ⟨g,0,none⟩) (m.records.length+1) cap)).cell? ⟨bl,0,none⟩=some (.pointer (some ⟨p,0,none⟩))∧(w3.setCell ⟨p,6,none⟩ (.slice (some ⟨g,0,none⟩) (m.records.length+1) cap)).cell? ⟨bb,0,none⟩=some (.slice ba b.length bc)∧(w3.setCell ⟨p,6,none⟩ (.slice (some ⟨g,0,none⟩) (m.records.length+1) cap)).cell? ⟨bm,0,none⟩=some (.int .i64 (k:Int))):=⟨by rw [World.cell?_setCell_other _ _ _ _ (by simp)];exact hK3.1.1,by rw [World.cell?_setCell_other _ _ _ _ (by simp)];exact hK3.1.2.1,by rw [World.cell?_setCell_other _ _ _ _ (by simp)];exact hK3.1.2.2⟩
 have K5:(((w3.setCell ⟨p,6,none⟩ (.slice (some ⟨g,0,none⟩) (m.records.length+1) cap)).setCell ⟨p,5,none⟩ (.int .i64 ((m.end'+k:Nat):Int))).cell? ⟨bl,0,none⟩=some (.pointer (some ⟨p,0,none⟩))∧((w3.setCell ⟨p,6,none⟩ (.slice (some ⟨g,0,none⟩) (m.records.length+1) cap)).setCell ⟨p,5,none⟩ (.int .i64 ((m.end'+k:Nat):Int))).cell? ⟨bb,0,none⟩=some (.slice ba b.length bc)∧((w3.setCell ⟨p,6,none⟩ (.slice (some ⟨g,0,none⟩) (m.records.length+1) cap)).setCell ⟨p,5,none⟩ (.int .i64 ((m.end'+k:Nat):Int))).cell? ⟨bm,0,none⟩=some (.int .i64 (k:Int))):=⟨by rw [World.cell?_setCell_other _ _ _ _ (by simp)];exact K4.1,by rw [World.cell?_setCell_other _ _ _ _ (by simp)];exact K4.2.1,by rw [World.cell?_setCell_other _ _ _ _ (by simp)];exact K4.2.2⟩
 have hwf':({ m with records:=m.records++[b],end':=m.end'+k }:Ad).wf:=by
  refine ⟨g1,g2,g3,by show 1 ≤ m.end'+k;omega,by show m.end'+k ≤ m.n;omega,by show (m.records++[b]).length+1 ≤ m.end'+k;simp only [List.length_append,List.length_cons,List.length_nil];omega, ?_⟩
  intro r hr
  rcases List.mem_append.1 hr with hr | hr
  ·exact g7 r hr
  ·simp only [List.mem_singleton] at hr;subst hr;exact rF
 have op3:Ak o2 g (L,1) p=(L,0):=by rw [BI _ _ xX];exact op2
 have vF:Step (Only L) w3 (Ak o2 g (L,1)) ((w3.setCell ⟨p,6,none⟩ (.slice (some ⟨g,0,none⟩) (m.records.length+1) cap)).setCell ⟨p,5,none⟩ (.int .i64 ((m.end'+k:Nat):Int))) (Ak o2 g (L,1)):=
  ((Step.refl (Only L) w3 (Ak o2 g (L,1))).setCell (a:=⟨p,6,none⟩) _ (.inl (by show (Ak o2 g (L,1) p).1=L;rw [op3]))).setCell (a:=⟨p,5,none⟩) _ (.inl (by show (Ak o2 g (L,1) p).1=L;rw [op3]))
 have zW:BZ ((w3.setCell ⟨p,6,none⟩ (.slice (some ⟨g,0,none⟩) (m.records.length+1) cap)).setCell ⟨p,5,none⟩ (.int .i64 ((m.end'+k:Nat):Int))) (Ak o2 g (L,1)) L p pd { m with records:=m.records++[b],end':=m.end'+k }:=by
  refine ⟨.slice (some ⟨g,0,none⟩) (m.records.length+1) cap,vs++[.slice va b.length vc],Ai (i:=5) _ (Ai (i:=6) _ hp3), ?_,yK.step vF hN0,op3, ?_,hwf'⟩
  ·have:(m.records++[b]).length=m.records.length+1:=by simp
   show World.ownsRow _ 0 29 1 _ (m.records++[b]).length _
   rw [this]
   refine Ci hown3 fun k hk => ?_
   simp only [Value.ownBlock,Option.some.injEq] at hk
   subst hk
   rw [Below.heap_setCell _ _ _ _ (Ne.symm xX),Below.heap_setCell _ _ _ _ (Ne.symm xX)]
  ·intro k hk
   simp only [Value.ownBlock,Option.some.injEq] at hk
   subst hk;exact Au _ _ _
 have hfin:Step (In L D) w o _ _:=(((hsT.only L).trans hs3).trans vF).yG
 have Aae:=Aaf.step vF (fun e=>hLD e.symm)
 have xY:=hidden (show _∧_∧_ from ⟨hfin,zW,Aae⟩)
 have K4H:=hidden K4
 have K5H:=hidden K5
 clear K4 K5 hfin zW Aae vF op3 hwf' yK Aaf hp3 kp hK3 hs3 hsT hs2 rH hs1 hown3 hgrow nL uU Aag
 refine BX (i:=16) rfl (by kernel_rfl) ?_
 go_wp2_with fail
 (first | refine ⟨.inl trivial, ?_⟩ | refine ⟨.inl rfl, ?_⟩ | skip)
 refine BX (i:=17) rfl (by kernel_rfl) ?_
 go_wp2_with fail
 (first | refine ⟨.inl trivial, ?_⟩ | refine ⟨.inl rfl, ?_⟩ | skip)
 refine BX (i:=18) rfl (by kernel_rfl) ?_
 go_wp2_with fail
 refine ⟨.inr ⟨K4H.out,fun h=>by rcases h with h | h <;> omega⟩, ?_⟩
 refine BX (i:=19) rfl (by kernel_rfl) ?_
 go_wp2_with fail
 (first | refine ⟨.inl trivial, ?_⟩ | refine ⟨.inl rfl, ?_⟩ | skip)
 refine BX (i:=20) rfl (by kernel_rfl) ?_
 go_wp2_with fail
 (first | refine ⟨.inl trivial, ?_⟩ | refine ⟨.inl rfl, ?_⟩ | skip)
 refine BX (i:=21) rfl (by kernel_rfl) ?_
 go_wp2_with fail
 refine ⟨.inr ⟨K5H.out,fun h=>by rcases h with h | h <;> omega⟩, ?_⟩
 refine JI (by kernel_rfl) ?_ _
 clear q5 q6 f5 f6
 go_wp2_with fail
 go_ret
 rw [hEH.out]
 exact ⟨_,_,rfl,xY.out.1,rfl,xY.out.2.1,xY.out.2.2⟩
end
open Go Go.RowKit Go.Shelf
attribute [local go_sem] Oper.semAt_some
section
variable {P:Program} {ops:Array Oper} {Q:Exit→Act→World→Prop} {md:Region.Mode} {n l:Nat}
theorem UG {row:String} {args:Array Value} {w:World} {R:Value→World→Prop} (h:Rows P row args w R):RowsIn (Fence.wide.inRound l) n P row args w R:=
 fun c cs _=>let ⟨v,w',r,s⟩:=h c cs;⟨v,w',r,stepsIn_wide.2 s⟩
theorem cO (hdef:∀ (o:Oper) (c:Call),o ∈ ops→o.op ≠ .defer c) (hno:¬ LetsOut Q) {i:Nat} {K:Act→World→Prop} {a:Act} {w:World} (h:wpOp P ops Q i K a w):wpOpIn (Fence.wide.inRound l) n P ops Q i K a w:=by
 unfold wpOp at h
 unfold wpOpIn
 cases ho:ops[i]? with
 | none=>simpa [ho] using h
 | some o =>
  simp only [ho] at h ⊢
  split
  ·rename_i hw
   rw [if_pos hw] at h
   rcases h with h | ⟨_,hl⟩
   ·refine ⟨fun _ _=>trivial, ?_⟩
    have hs:Oper.semAt (Fence.wide.inRound l).round a.eval o=execOp a.eval o:=Oper.semAt_some l a.eval o (fun c=>hdef o c (Array.mem_of_getElem? ho))
    rw [hs]
    unfold Oper.wp at h
    generalize (execOp a.eval o).run P w=r at *
    cases r with
    | ok x w' =>
     cases x <;> simp only [Oper.upon,Oper.uponIn] at h ⊢
     case value u=>exact h
     case skip=>exact h
     case defer d=>exact h
     case enter f args=>exact ⟨fun hd=>by simp [Fence.wide,Fence.inRound] at hd,CallsIn.inRound l (callsIn_wide.2 h)⟩
     case row row args=>exact ⟨fun hd=>by simp [Fence.wide,Fence.inRound] at hd,UG h⟩
    | halt x w' =>
     cases x <;> simp only [Oper.upon,Oper.uponIn] at h ⊢
     case panic u=>exact h
   ·exact absurd hl hno
  ·rename_i hw
   rw [if_neg hw] at h
   exact ⟨fun _ _=>trivial,h⟩
theorem Um (hdef:∀ (o:Oper) (c:Call),o ∈ ops→o.op ≠ .defer c) (hno:¬ LetsOut Q):∀ (fuel:Nat) (listed:Array Bool) (a:Act) (w:World),wpAny P md ops Q fuel listed a w→wpAnyIn (Fence.wide.inRound l) n P md ops Q fuel listed a w
 | 0,_,_,_,h=>h
 | fuel+1,_listed,_a,_w,h=>⟨h.1,fun i hi=>cO hdef hno (wpOp_mono (fun a' w' h'=>Um hdef hno fuel _ a' w' h') (h.2 i hi))⟩
def XH (ops:Array Oper):Bool:=ops.all fun o=>match o.op with | .defer _=>false | _=>true
theorem Tz (h:XH ops=true) (o:Oper) (c:Call) (ho:o ∈ ops):o.op ≠ .defer c:=by
 intro heq
 have:=Array.all_eq_true_iff_forall_mem.1 h o ho
 simp [heq] at this
theorem OI {id:Nat} {a:Act} {w:World} (S:World→Prop) (need:Nat→Bool) (hm:P.follows .mixedOrders=true) (hdef:XH ops=true) (hno:¬ LetsOut Q) (hS:S w.drew)
  (h:S w.drew→Dq P .any ops Q S need ops.size (Array.replicate ops.size false) a w.drew):(Code.region id ops true).wpIn (Fence.wide.inRound l) n P Q a w:=
 wpIn_region_any hm (Um (Tz hdef) hno _ _ _ _ (Iy _ _ _ _ (h hS)))
end
def JV (v:Value) (k:Nat):Value:=match v with
 | .slice a len cap=>if k=0 then .slice a (min len 480) cap else match a with
  | some x => .slice (some ⟨x.block,x.off+k*480,none⟩) (min len ((k+1)*480) - k*480) (cap - k*480)
  | none=>undef
 | _=>undef
theorem AiL {w:World} {o:Own} {v:Value} {l:List UInt8} (h:Bytes w o v l) (k:Nat) (hk:k<Ad.many l):Bytes w o (JV v k) (Ad.part l k):=by
 have Aex:k=0 ∨ 480*k<l.length:=by unfold Ad.many at hk;omega
 unfold Ad.part
 rcases h.cases with ⟨⟨a,c,rfl⟩,rfl⟩ | ⟨b,off,cap,rfl,hcl,hcm,ho,hb,hr⟩
 ·have:k=0:=by simp at Aex;omega
  subst this
  exact .inl ⟨⟨_,_,by simp [JV];exact ⟨rfl,rfl⟩⟩,by simp,by simp⟩
 ·by_cases h0:k=0
  ·subst h0
   have:=h.part 0 (min l.length 480) (by omega) (by omega)
   simp only [Nat.add_zero,Nat.sub_zero,List.drop_zero] at this
   simp only [JV,if_true,Nat.mul_zero,List.drop_zero]
   have e:l.take 480=l.take (min l.length 480):=by
    by_cases hl:l.length ≤ 480
    ·rw [Nat.min_eq_left hl,List.take_length,List.take_of_length_le hl]
    ·rw [Nat.min_eq_right (by omega)]
   rw [e];exact this
  ·have:=h.part (480*k) (min l.length (480*(k+1))) (by omega) (by omega)
   simp only [JV,if_neg h0]
   rw [Nat.mul_comm k 480,Nat.mul_comm (k+1) 480]
   have e:(l.drop (480*k)).take 480=(l.drop (480*k)).take (min l.length (480*(k+1)) - 480*k):=by
    by_cases hl:l.length ≤ 480*(k+1)
    ·rw [Nat.min_eq_left hl,List.take_of_length_le (by simp;omega),List.take_of_length_le (by simp)]
    ·rw [Nat.min_eq_right (by omega)]
     congr 1;omega
   rw [e];exact this
theorem eH (w:World) (a:Option Addr) (n c:Nat):Calls prog 236 #[.slice a n c] w fun e w'=>e = .returned (.func (.func 255) #[] #[.pointer (some ⟨w.heap.size,0,none⟩)])∧w'=w.alloc (.cells #[.slice a n c] 29):=by
 go_enter func236,ntmps236
 go_wp2
 go_ret
 exact ⟨rfl,rfl⟩
theorem eP (n:Nat) (hn:1 ≤ n) (l bx:Nat) (a:Option Addr) (len cap:Nat) (hsome:480<len→∃ b off,a=some ⟨b,off,none⟩) (hcap:len ≤ cap) (hlen:cap ≤ 9223372036854775807) (hlen2:len ≤ 1000000000) (many:Nat) (Aex:many=max 1 ((len+479) / 480)) (J Jx:List (Fin many)→World→Prop)
  (hY:∀ (pre:List (Fin many)) (x:Fin many) (W:World),J pre W→pre.length<many→YieldAt Fence.wide (n - 1) prog l #[.int .i64 (x.val:Int),JV (.slice a len cap) x.val] W fun e W' =>
   (e = .returned (.bool true)∧J (pre++[x]) W'∧W'.heap[bx]?=W.heap[bx]?) ∨ (e = .returned (.bool false)∧Jx (pre++[x]) W'))
  (W:World) (hBs:W.heap[bx]?=some (.cells #[.slice a len cap] 29 (0,0))) (h0:J [] W) :
  CallsIn Fence.wide n prog 255 #[.func (.yield l) #[] #[], .pointer (some ⟨bx,0,none⟩)] W fun e W'=>(∃ v,e = .returned v) ∧
   ((∃ ys,ys.map (·.val)=List.range many∧J ys W') ∨ (∃ pre,(∃ k,k ≤ many∧1 ≤ k∧pre.map (·.val)=List.range k)∧Jx pre W')):=by
 refine callsIn_of_wp func255 rfl trivial ?_ rfl
 simp only [ntmps255,List.size_toArray,List.length_cons,List.length_nil,Nat.reduceAdd,Nat.reduceSub,Array.replicate_succ,Array.replicate_zero,List.push_toArray,List.append_toArray,List.nil_append,List.cons_append]
 have qL:=hidden Aex
 clear Aex
 gi_wp2
 gi_loopw [3] (fun i wr=>∃ k:Nat,k ≤ many∧i = .int .i64 k∧(∃ pre:List (Fin many),pre.map (·.val)=List.range k∧J pre wr)∧wr.heap[bx]?=some (.cells #[.slice a len cap] 29 (0,0)))
  (fun i _=>many - (intOf i).toNat)
 case atStart=>exact ⟨0,Nat.zero_le _,rfl,⟨[],rfl,h0⟩,hBs⟩
 case round =>
  clear hBs h0
  obtain ⟨k,hk,rfl,⟨pre,hpre,hJs⟩,hbx⟩:=hrel
  have qW:pre.length=k:=by have:=congrArg List.length hpre;simpa using this
  have oU:=hidden hpre
  have zA:=hidden qW
  clear hpre qW
  have cb:wr.cell? ⟨bx,0,none⟩=some (.slice a len cap):=cell_of_one hbx
  by_cases hk0:k=0
  ·subst hk0
   have hlt:0<many:=by have:=qL.out;omega
   obtain ⟨fn,tmps,assign,body,hy,hR⟩:=hY _ ⟨0,hlt⟩ wr hJs (by rw [zA.out];exact hlt)
   have hpv:JV (.slice a len cap) 0 = .slice a (min len 480) cap:=by simp [JV]
   dsimp only at hy
   have e0:((0:Nat):Int)=0:=rfl
   rw [hpv,e0] at hy
   clear e0 hpv hY
   by_cases xU:len ≤ 480
   ·rw [Nat.min_eq_left xU] at hy
    have wF:(len:Int) ≤ 480:=by omega
    gi_wp2
    refine hR.mono ?_
    rintro e W3 (⟨rfl,hJ3,hk3⟩ | ⟨rfl,hJx3⟩)
    ·gi_wp2
     go_roundw
     case rel=>exact ⟨0+1,hlt,by go_num,⟨_,by rw [List.range_succ,List.map_append,oU.out];rfl,hJ3⟩,hk3.trans hbx⟩
     case measure=>simp [intOf];omega
    ·gi_wp2
     refine bodyPost_ret (results_none rfl _ _ _) rfl ?_
     exact ⟨⟨_,rfl⟩, .inr ⟨_,⟨0+1,hlt,by omega,by rw [List.range_succ,List.map_append,oU.out];rfl⟩,hJx3⟩⟩
   ·rw [Nat.min_eq_right (by omega)] at hy
    have wF:¬ (len:Int) ≤ 480:=by omega
    have icap:(480:Int) ≤ (cap:Int):=by omega
    gi_wp2
    refine hR.mono ?_
    rintro e W3 (⟨rfl,hJ3,hk3⟩ | ⟨rfl,hJx3⟩)
    ·gi_wp2
     go_roundw
     case rel=>exact ⟨0+1,hlt,by go_num,⟨_,by rw [List.range_succ,List.map_append,oU.out];rfl,hJ3⟩,hk3.trans hbx⟩
     case measure=>simp [intOf];omega
    ·gi_wp2
     refine bodyPost_ret (results_none rfl _ _ _) rfl ?_
     exact ⟨⟨_,rfl⟩, .inr ⟨_,⟨0+1,hlt,by omega,by rw [List.range_succ,List.map_append,oU.out];rfl⟩,hJx3⟩⟩
  ·have hki:((k:Int) == 0)=false:=by rw [beq_eq_false_iff_ne];omega
   by_cases hlt:k<many
   ·have hkl:480*k<len:=by have:=qL.out;omega
    have ikl:(k:Int)*480<(len:Int):=by omega
    obtain ⟨b,off,rfl⟩:=hsome (by omega)
    obtain ⟨fn,tmps,assign,body,hy,hR⟩:=hY _ ⟨k,hlt⟩ wr hJs (by rw [zA.out];exact hlt)
    dsimp only at hy
    have hpv:JV (.slice (some ⟨b,off,none⟩) len cap) k = .slice (some ⟨b,off+k*480,none⟩) (min len ((k+1)*480) - k*480) (cap - k*480):=by simp [JV,hk0]
    rw [hpv] at hy
    clear hpv hY hk0 hsome
    have iw:(k:Int) ≤ 3000000:=by omega
    by_cases xU:len ≤ (k+1)*480
    ·rw [Nat.min_eq_left xU] at hy
     have wF:(len:Int) ≤ ((k:Int)+1)*480:=by omega
     gi_wp2
     refine hR.mono ?_
     rintro e W3 (⟨rfl,hJ3,hk3⟩ | ⟨rfl,hJx3⟩)
     ·gi_wp2
      go_roundw
      case rel=>exact ⟨k+1,hlt,by go_num,⟨_,by rw [List.range_succ,List.map_append,oU.out];rfl,hJ3⟩,hk3.trans hbx⟩
      case measure=>simp [intOf];omega
     ·gi_wp2
      refine bodyPost_ret (results_none rfl _ _ _) rfl ?_
      exact ⟨⟨_,rfl⟩, .inr ⟨_,⟨k+1,hlt,by omega,by rw [List.range_succ,List.map_append,oU.out];rfl⟩,hJx3⟩⟩
    ·rw [Nat.min_eq_right (by omega)] at hy
     have wF:¬ (len:Int) ≤ ((k:Int)+1)*480:=by omega
     have icap:((k:Int)+1)*480 ≤ (cap:Int):=by omega
     gi_wp2
     refine hR.mono ?_
     rintro e W3 (⟨rfl,hJ3,hk3⟩ | ⟨rfl,hJx3⟩)
     ·gi_wp2
      go_roundw
      case rel=>exact ⟨k+1,hlt,by go_num,⟨_,by rw [List.range_succ,List.map_append,oU.out];rfl,hJ3⟩,hk3.trans hbx⟩
      case measure=>simp [intOf];omega
     ·gi_wp2
      refine bodyPost_ret (results_none rfl _ _ _) rfl ?_
      exact ⟨⟨_,rfl⟩, .inr ⟨_,⟨k+1,hlt,by omega,by rw [List.range_succ,List.map_append,oU.out];rfl⟩,hJx3⟩⟩
   ·have hkl:¬ 480*k<len:=by have:=qL.out;omega
    have ikl:¬ (k:Int)*480<(len:Int):=by omega
    obtain rfl:many=k:=by omega
    have iw:(many:Int) ≤ 3000000:=by have:=qL.out;omega
    gi_wp2
    go_end0
    exact ⟨⟨_,rfl⟩, .inl ⟨_,oU.out,hJs⟩⟩
theorem Zd (n:Nat) (hn:1 ≤ n) (bx:Nat) (a:Option Addr) (len cap:Nat) (hsome:480<len→∃ b off,a=some ⟨b,off,none⟩) (hcap:len ≤ cap) (hlen:cap ≤ 9223372036854775807) (hlen2:len ≤ 1000000000) (many:Nat) (Aex:many=max 1 ((len+479) / 480))
  (w:World) (hbx:w.heap[bx]?=some (.cells #[.slice a len cap] 29 (0,0))) :
  SeqStopsK Fence.wide n prog 255 #[.pointer (some ⟨bx,0,none⟩)] (fun x:Fin many => #[Value.int .i64 (x.val:Int),JV (.slice a len cap) x.val]) (fun W W'=>W'.heap[bx]?=W.heap[bx]?) (fun ys=>ys.map (·.val)=List.range many) (fun pre=>∃ k,k ≤ many∧1 ≤ k∧pre.map (·.val)=List.range k) many w:=fun l J Jx W hW _ _ hY h0=>by
 have hbl:=lt_of_block hbx
 exact eP n hn l bx a len cap hsome hcap hlen hlen2 many Aex J Jx hY W ((hW.block bx hbl).trans hbx) h0
def Gi (l:Ad) (of':Nat) (b:List UInt8):List Nat→Af→Af × Int
 | [],d=>(d,0)
 | x :: r,d =>
  if (d.write ((l.first+l.end'+x:Nat):Int) (AA.page ⟨l.stamp,x,of',Ad.part b x⟩)).2 ≠ 0 then d.write ((l.first+l.end'+x:Nat):Int) (AA.page ⟨l.stamp,x,of',Ad.part b x⟩)
  else Gi l of' b r (d.write ((l.first+l.end'+x:Nat):Int) (AA.page ⟨l.stamp,x,of',Ad.part b x⟩)).1
theorem put_eq (l:Ad) (of':Nat) (b:List UInt8):∀ (k i:Nat) (d:Af),Ad.put l of' b k i d=Gi l of' b (List.range' i k) d
 | 0,_,_=>rfl
 | k+1,i,d=>by
  rw [List.range'_succ]
  unfold Ad.put Gi
  dsimp only
  rw [put_eq l of' b k (i+1)]
theorem Rw (l:Ad) (of':Nat) (b:List UInt8) (x:Nat):∀ (xs:List Nat) (d:Af),Gi l of' b (xs++[x]) d =
  if (Gi l of' b xs d).2 ≠ 0 then Gi l of' b xs d else (Gi l of' b xs d).1.write ((l.first+l.end'+x:Nat):Int) (AA.page ⟨l.stamp,x,of',Ad.part b x⟩)
 | [],d=>by
  have h0:∀ d:Af,Gi l of' b [] d=(d,0):=fun _=>rfl
  rw [List.nil_append,h0]
  unfold Gi
  simp only [h0,ne_eq,not_true_eq_false,if_false]
  split
  ·rfl
  ·rename_i h
   simp only [Decidable.not_not] at h
   rw [←h]
 | y :: xs,d=>by
  rw [List.cons_append]
  unfold Gi
  by_cases h:(d.write ((l.first+l.end'+y:Nat):Int) (AA.page ⟨l.stamp,y,of',Ad.part b y⟩)).2 ≠ 0
  ·rw [if_pos h,if_pos h,if_pos h]
  ·rw [if_neg h,if_neg h,Rw l of' b x xs]
theorem UU (l:Ad) (of':Nat) (b:List UInt8):∀ (xs ys:List Nat) (d:Af),(Gi l of' b xs d).2 ≠ 0→Gi l of' b (xs++ys) d=Gi l of' b xs d
 | [],_,_,h=>by simp [Gi] at h
 | x :: xs,ys,d,h=>by
  rw [List.cons_append]
  unfold Gi at h ⊢
  by_cases hx:(d.write ((l.first+l.end'+x:Nat):Int) (AA.page ⟨l.stamp,x,of',Ad.part b x⟩)).2 ≠ 0
  ·rw [if_pos hx,if_pos hx]
  ·rw [if_neg hx] at h ⊢
   rw [if_neg hx]
   exact UU l of' b xs ys _ h
theorem PE (l:Ad) (of':Nat) (b:List UInt8):∀ (xs:List Nat) (d:Af),(Gi l of' b xs d).1.row.length ≤ d.row.length+xs.length
 | [],_=>Nat.le_refl _
 | x :: r,d=>by
  unfold Gi
  have h:=Af.Nz d ((l.first+l.end'+x:Nat):Int) (AA.page ⟨l.stamp,x,of',Ad.part b x⟩)
  split
  ·simp only [List.length_cons];omega
  ·have:=PE l of' b r (d.write ((l.first+l.end'+x:Nat):Int) (AA.page ⟨l.stamp,x,of',Ad.part b x⟩)).1
   simp only [List.length_cons];omega
def ext (W:World) (o:Own):Own:=fun k=>if k<W.heap.size then o k else (0,0)
def Others (W:World) (row:Option Nat):Prop:=∀ r,row=some r→∃ o:Obj,W.heap[r]?=some o∧o.isCells=false
section
variable {W W':World} {row:Option Nat} {o:Own}
theorem Others.same (h:Others W row) (hg:W.grownBy W' row) {k:Nat} {cs:Array Value} {t:TypeId} {fr:Nat × Nat} (hk:W.heap[k]?=some (.cells cs t fr)):W'.heap[k]?=some (.cells cs t fr):=by
 rw [hg.block k (lt_of_block hk)]
 ·exact hk
 ·intro e
  obtain ⟨ob,h1,h2⟩:=h k e.symm
  rw [hk] at h1
  simp only [Option.some.injEq] at h1
  subst h1;cases h2
theorem Others.cell (h:Others W row) (hg:W.grownBy W' row) {a:Addr} {v:Value} (hc:W.cell? a=some v):W'.cell? a=some v:=by
 cases hk:W.heap[a.block]? with
 | none=>simp [World.cell?,hk] at hc
 | some ob =>
  cases ob with
  | cells cs t fr=>rw [World.cell?_of_block (w:=W) (a:=a) (by rw [h.same hg hk,hk])];exact hc
  | _=>simp [World.cell?,hk] at hc
theorem Bytes.kept {v:Value} {l:List UInt8} (hb:Bytes W o v l) (h:Others W row) (hg:W.grownBy W' row):Bytes W' (ext W o) v l:=by
 rcases hb with hb | ⟨b,off,cap,hv,h1,h2,h3,h4,h5⟩
 ·exact .inl hb
 ·exact .inr ⟨b,off,cap,hv,h1,h2,by unfold ext;rw [if_pos h4];exact h3,Nat.lt_of_lt_of_le h4 hg.size,fun j v hj=>h.cell hg (h5 j v hj)⟩
theorem MH {e:TypeId} {size n:Nat} {v:Value} {xs:List Value} (hr:W.ownsRow 0 e size v n xs) (h:Others W row) (hg:W.grownBy W' row):W'.ownsRow 0 e size v n xs:=by
 refine ⟨hr.1, ?_⟩
 rcases hr.2 with hn | ⟨g,cap,cur,rfl,hb,hgg,rest⟩
 ·exact .inl hn
 ·exact .inr ⟨g,cap,cur,rfl,hb,h.same hg hgg,rest⟩
theorem BZ.kept {L p pd:Nat} {m:Ad} (hl:BZ W o L p pd m) (h:Others W row) (hg:W.grownBy W' row):BZ W' (ext W o) L p pd m:=by
 obtain ⟨rv,vs,hp,hr,hv,op,wI,hwf⟩:=hl
 refine ⟨rv,vs,h.same hg hp,MH hr h hg,⟨⟨hv.1.1,fun i v l h1 h2=>(hv.1.2 i v l h1 h2).kept h hg⟩,fun v hx b off n c e hn => ?_⟩, ?_,fun k hk => ?_,hwf⟩
 ·obtain ⟨h1,h2⟩:=hv.2 v hx b off n c e hn
  exact ⟨Nat.lt_of_lt_of_le h1 hg.size,by unfold ext;rw [if_pos h1];exact h2⟩
 ·unfold ext;rw [if_pos (lt_of_block hp)];exact op
 ·unfold ext;rw [if_pos (hr.lt k hk).2];exact wI k hk
theorem Bg.kept {D p:Nat} {d:Af} (hd:Bg W o D p d) (h:Others W row) (hg:W.grownBy W' row):Bg W' (ext W o) D p d:=by
 obtain ⟨bl,rv,hp,hl,hr,op,ol,wI,hwf⟩:=hd
 refine ⟨bl,rv,h.same hg hp,h.same hg hl,MH hr h hg, ?_, ?_,fun k hk => ?_,hwf⟩
 ·unfold ext;rw [if_pos (lt_of_block hp)];exact op
 ·unfold ext;rw [if_pos (lt_of_block hl)];exact ol
 ·unfold ext;rw [if_pos (hr.lt k hk).2];exact wI k hk
theorem Step.kept {T:Nat→Prop} {w0:World} {o0:Own} (hs:Step T w0 o0 W o) (hg:W.grownBy W' row) (hr:∀ r,row=some r→w0.heap.size ≤ r):Step T w0 o0 W' (ext W o):=by
 refine ⟨hg.os.trans hs.os,hg.tape.trans hs.tape,hg.output.trans hs.output,Nat.le_trans hs.size hg.size,fun k hk => ?_,fun k hk ht => ?_⟩
 ·unfold ext;rw [if_pos (Nat.lt_of_lt_of_le hk hs.size)];exact hs.own k hk
 ·rw [hg.block k (Nat.lt_of_lt_of_le hk hs.size) (fun e=>by have:=hr k e.symm;omega)];exact hs.block k hk ht
end
def Plain (B:Nat) (T:Nat→Prop) (W:World) (o:Own):Prop:=∀ k ob,B ≤ k→W.heap[k]?=some ob→ob.isCells=false→¬ T (o k).1
theorem Plain.keeps {B:Nat} {T:Nat→Prop} {W W':World} {o o':Own} (h:Plain B T W o) (hs:Step T W o W' o'):KeepsFrom B W W':=
 ⟨hs.size,fun k ob hk hb hc=>by rw [hs.block k (Array.getElem?_eq_some_iff.1 hb).1 (h k ob hk hb hc)];exact hb⟩
def Cb (B:Nat) (W:World) (o:Own):Own:=fun k=>if B ≤ k then (match W.heap[k]? with | some (.cells _ _ _)=>o k | _=>(0,0)) else o k
section
variable {W:World} {o:Own} {B:Nat}
theorem DY {k:Nat} {cs:Array Value} {t:TypeId} {fr:Nat × Nat} (h:W.heap[k]?=some (.cells cs t fr)):Cb B W o k=o k:=by
 unfold Cb;rw [h];simp
theorem QM {k:Nat} (h:(o k).1=0):(Cb B W o k).1=0:=by
 unfold Cb
 split
 ·split
  ·exact h
  ·rfl
 ·exact h
theorem JU (T:Nat→Prop) (h0:¬ T 0):Plain B T W (Cb B W o):=by
 intro k ob hk hb hc
 unfold Cb
 rw [if_pos hk,hb]
 cases ob <;> first | exact h0 | (simp [Obj.isCells] at hc)
theorem Bytes.Cb {v:Value} {l:List UInt8} (hb:Bytes W o v l):Bytes W (Cb B W o) v l:=by
 rcases hb with hb | ⟨b,off,cap,hv,h1,h2,h3,h4,h5⟩
 ·exact .inl hb
 ·exact .inr ⟨b,off,cap,hv,h1,h2,QM h3,h4,h5⟩
theorem Ou {e:TypeId} {size n:Nat} {v:Value} {xs:List Value} (hr:W.ownsRow 0 e size v n xs) {k:Nat} (hk:v.ownBlock=some k):Cb B W o k=o k:=by
 rcases hr.2 with ⟨rfl,_⟩ | ⟨g,cap,cur,rfl,hb,hgg,rest⟩
 ·simp [Value.ownBlock] at hk
 ·simp only [Value.ownBlock,Option.some.injEq] at hk
  subst hk;exact DY hgg
theorem BZ.Cb {L p pd:Nat} {m:Ad} (hl:BZ W o L p pd m):BZ W (Cb B W o) L p pd m:=by
 obtain ⟨rv,vs,hp,hr,hv,op,wI,hwf⟩:=hl
 refine ⟨rv,vs,hp,hr,⟨⟨hv.1.1,fun i v l h1 h2=>(hv.1.2 i v l h1 h2).Cb⟩,fun v hx b off n c e hn => ?_⟩,by rw [DY hp];exact op,fun k hk=>by rw [Ou hr hk];exact wI k hk,hwf⟩
 obtain ⟨h1,h2⟩:=hv.2 v hx b off n c e hn
 obtain ⟨i,hi⟩:=List.mem_iff_getElem?.1 hx
 have hil:=(List.getElem?_eq_some_iff.1 hi).1
 rcases hv.1.2 i v _ hi (List.getElem?_eq_getElem (by rw [←hv.1.1];exact hil)) with ⟨⟨_,_,e2⟩,_⟩ | ⟨b',off',cap',e2,_,_,_,_,h5⟩
 ·rw [e] at e2;simp only [Value.slice.injEq] at e2;omega
 ·rw [e] at e2
  simp only [Value.slice.injEq,Option.some.injEq,Addr.mk.injEq] at e2
  obtain ⟨⟨rfl,rfl, -⟩,hn2,rfl⟩:=e2
  have h50:=h5 0 _ (List.getElem?_eq_getElem (by rw [Bh];omega))
  refine ⟨h1, ?_⟩
  cases hb:W.heap[b]? with
  | none=>simp [World.cell?,hb] at h50
  | some ob =>
   cases ob with
   | cells cs t fr=>rw [DY hb];exact h2
   | _=>simp [World.cell?,hb] at h50
theorem Bg.Cb {D p:Nat} {d:Af} (hd:Bg W o D p d):Bg W (Cb B W o) D p d:=by
 obtain ⟨bl,rv,hp,hl,hr,op,ol,wI,hwf⟩:=hd
 exact ⟨bl,rv,hp,hl,hr,by rw [DY hp];exact op,by rw [DY hl];exact ol,fun k hk=>by rw [Ou hr hk];exact wI k hk,hwf⟩
theorem Step.Cb {T:Nat→Prop} {w0:World} {o0:Own} (hs:Step T w0 o0 W o) (hB:w0.heap.size ≤ B):Step T w0 o0 W (Cb B W o):=
 ⟨hs.os,hs.tape,hs.output,hs.size,fun k hk=>by unfold YtffkdillijmamaaGreat.Cb;rw [if_neg (by omega)];exact hs.own k hk,hs.block⟩
end
theorem Held.cells {w:World} {p pd:Nat} {m:Ad} (h:Held w p pd m):w.cell? ⟨p,0,none⟩=some (.pointer (some ⟨pd,0,none⟩))∧w.cell? ⟨p,1,none⟩=some (.int .i64 (m.first:Int))∧w.cell? ⟨p,3,none⟩=some (.int .u64 (m.stamp.toNat:Int))∧w.cell? ⟨p,5,none⟩=some (.int .i64 (m.end':Int)):=
 ⟨h.1,h.2.1,h.2.2.2.1,h.2.2.2.2.2.1⟩
theorem Step.fA {L D X:Nat} {w w':World} {o o':Own} (h:Step (fun k=>k=L ∨ k=D ∨ k=X) w o w' o') (hf:∀ k,k<w.heap.size→(o k).1 ≠ X):Step (In L D) w o w' o':=
 ⟨h.os,h.tape,h.output,h.size,h.own,fun k hk ht=>h.block k hk (by rintro (h1 | h1 | h1);exact ht (.inl h1);exact ht (.inr h1);exact hf k hk h1)⟩
def sG (L D X:Nat):Nat→Prop:=fun k=>k=L ∨ k=D ∨ k=X
section
variable {w:World} {o:Own} {L D p pd:Nat} {s:Ad × Af}
def capLe (v:Value):Prop:=∀ a n c,v = .slice a n c→c ≤ 9223372036854775807
theorem Yi (hL:L ≠ 0) (hD:D ≠ 0) (hLD:L ≠ D) (h:LD w o L D p pd s) (hrow:s.2.row.length ≤ 800000) (b:List UInt8) (bv:Value) (hb:Bytes w o bv b) (hcapb:capLe bv) (hroom:Ad.many b ≤ s.1.n - s.1.end') (rF:b.length ≤ 960000) (bl bb bm:Nat) (hbl:Box w o bl 162 (.pointer (some ⟨p,0,none⟩))) (hbb:Box w o bb 29 bv) (hbm:Box w o bm 3 (.int .i64 (Ad.many b:Int))) :
  Calls prog 235 #[.pointer (some ⟨bl,0,none⟩), .pointer (some ⟨bb,0,none⟩), .pointer (some ⟨bm,0,none⟩)] w (XL (In L D) w o fun v w' o'=>v = .int .i64 (Ad.step3 b s).2∧LD w' o' L D p pd (Ad.step3 b s).1):=by
 obtain ⟨m,d⟩:=s
 obtain ⟨pK,hdk⟩:=h
 simp only at pK hdk hroom hrow
 obtain ⟨X,hXg,hXf⟩:=KT o w.heap.size (L+D)
 have hX:X ≠ 0∧X ≠ L∧X ≠ D:=by omega
 obtain ⟨g1,g2,g3,g4,g5,g6,g7⟩:=pK.wf
 have hN:¬ In L D 0:=fun h=>by rcases h with h | h <;> omega
 have xP:¬ sG L D X 0:=fun h=>by rcases h with h | h | h <;> omega
 obtain ⟨many,Abl⟩:∃ many,Ad.many b=many:=⟨_,rfl⟩
 have AbA:1 ≤ many:=by rw [←Abl];exact Ad.Ko b
 have uB:many=max 1 ((b.length+479) / 480):=by rw [←Abl];rfl
 have vH:=hidden uB
 have Abz:many ≤ 2000:=by rw [Abl] at hroom;omega
 obtain ⟨st,hst⟩:∃ st,m.stamp+1#64=st:=⟨_,rfl⟩
 have hwr:=Rf m.stamp
 rw [hst] at hwr
 obtain ⟨m1,hm1⟩:∃ m1:Ad,({ m with stamp:=st }:Ad)=m1:=⟨_,rfl⟩
 obtain ⟨rv,vs,⟨c0,c1,c2,c3,c4,c5,c6,c7⟩,hf, -⟩:=pK.open
 have f3:=hf 3
 have cl1:=hbl.cell
 have cb1:=hbb.cell
 have wS:p<w.heap.size:=pK.lt
 have hl1:=pK.set (m':=m1) hL 3 (.int .u64 (st.toNat:Int)) (fun rv=>by rw [←hm1];rfl) (by rw [←hm1]) (by rw [←hm1];exact Ad.Uo pK.wf _)
 have rM:=pK.DC 3 (.int .u64 (st.toNat:Int))
 have hd1:=hdk.step rM (fun e=>hLD e.symm)
 have hb1:=hb.step rM (fun e=>hL e.symm)
 have Aao:=hbl.step rM (fun e=>hL e.symm)
 have AbU:=hbb.step rM (fun e=>hL e.symm)
 have Aal:=hbm.step rM (fun e=>hL e.symm)
 have hsz1:(w.setCell ⟨p,3,none⟩ (.int .u64 (st.toNat:Int))).heap.size=w.heap.size:=by simp
 have rJ:=(Step.refl Nobody (w.setCell ⟨p,3,none⟩ (.int .u64 (st.toNat:Int))) o).alloc (.cells #[.int .i64 0] 23) (X,0)
 have hr2:((w.setCell ⟨p,3,none⟩ (.int .u64 (st.toNat:Int))).alloc (.cells #[.int .i64 0] 23)).heap[w.heap.size]?=some (.cells #[.int .i64 0] 23 (0,0)):=by rw [←hsz1];exact heap_alloc_new _ _
 have yS:Ak o (w.setCell ⟨p,3,none⟩ (.int .u64 (st.toNat:Int))).heap.size (X,0) w.heap.size=(X,0):=by rw [hsz1];exact Au _ _ _
 have qI:=(Step.refl Nobody ((w.setCell ⟨p,3,none⟩ (.int .u64 (st.toNat:Int))).alloc (.cells #[.int .i64 0] 23)) (Ak o (w.setCell ⟨p,3,none⟩ (.int .u64 (st.toNat:Int))).heap.size (X,0))).alloc (.cells #[bv] 29) (0,0)
 have hbx:=Box.new ((w.setCell ⟨p,3,none⟩ (.int .u64 (st.toNat:Int))).alloc (.cells #[.int .i64 0] 23)) (Ak o (w.setCell ⟨p,3,none⟩ (.int .u64 (st.toNat:Int))).heap.size (X,0)) 29 bv
 have hsz2:((w.setCell ⟨p,3,none⟩ (.int .u64 (st.toNat:Int))).alloc (.cells #[.int .i64 0] 23)).heap.size=w.heap.size+1:=by simp
 have hl3:=(hl1.step rJ id id).step qI id id
 have hd3:=(hd1.step rJ id).step qI id
 have hb3:=(hb1.step rJ id).step qI id
 have uI:=(Aao.step rJ id).step qI id
 have xJ:=(Aal.step rJ id).step qI id
 have hrw2:=lt_of_block hr2
 have hr3:=(qI.block w.heap.size hrw2 id).trans hr2
 have wR:=(qI.own w.heap.size hrw2).trans yS
 have hs3:Step (sG L D X) w o _ _:=((rM.mono (fun k h=>(.inl h:sG L D X k))).trans (rJ.mono (fun k h=>h.elim))).trans (qI.mono (fun k h=>h.elim))
 have Aam:=lt_of_block hbl.1
 have Aap:=lt_of_block hbb.1
 have Acb:(w.alloc (.cells #[.int .i64 0] 23)).cell? ⟨bl,0,none⟩=some (.pointer (some ⟨p,0,none⟩)):=by rw [World.cell?_alloc_lt _ _ _ Aam];exact cl1
 have c3a:(w.alloc (.cells #[.int .i64 0] 23)).cell? ⟨p,3,none⟩=some (.int .u64 (m.stamp.toNat:Int)):=by rw [World.cell?_alloc_lt _ _ _ wS];exact c3
 have f3a:(w.alloc (.cells #[.int .i64 0] 23)).frozen? ⟨p,3,none⟩=false:=by rw [World.frozen?_of_block (w:=w) (a:=⟨p,3,none⟩) (Below.heap_alloc _ _ _ wS)];exact f3
 have Ace:((w.setCell ⟨p,3,none⟩ (.int .u64 (st.toNat:Int))).alloc (.cells #[.int .i64 0] 23)).cell? ⟨bb,0,none⟩=some bv:=by rw [World.cell?_alloc_lt _ _ _ (by simpa using Aap),World.cell?_setCell_other _ _ _ _ (by simp)];exact cb1
 clear cl1 c3 f3 cb1
 obtain ⟨ba,bc,hbv⟩:=Aq hb
 have hfirst:m1.first=m.first:=by rw [←hm1]
 have hend:m1.end'=m.end':=by rw [←hm1]
 have Abd:m1.stamp=st:=by rw [←hm1]
 have hE:Ad.step3 b (m,d)=if (Gi m1 many b (List.range many) d).2 ≠ 0 then ((m1,(Gi m1 many b (List.range many) d).1),(Gi m1 many b (List.range many) d).2) else ((m1,(Gi m1 many b (List.range many) d).1.sync.1),(Gi m1 many b (List.range many) d).1.sync.2):=by
  unfold Ad.step3
  simp only [hst,hm1,Abl,put_eq, ←List.range_eq_range']
 have hEH:=hidden hE
 have AdG:=hidden hm1
 have AaK:=hidden hfirst
 have AcN:=hidden hend
 have tV:∀ {a:Option Addr} {c:Nat},bv = .slice a b.length c→(480<b.length→∃ b' off',a=some ⟨b',off',none⟩)∧b.length ≤ c∧c ≤ 9223372036854775807:=by
  intro a c hv
  rcases hb.cases with ⟨⟨a',c',hv'⟩,hnil⟩ | ⟨b',off',cap',hv',h1,h2,_⟩
  ·exact ⟨fun h=>by rw [hnil] at h;simp at h,by rw [hnil];simp,hcapb _ _ _ hv⟩
  ·rw [hv'] at hv
   simp only [Value.slice.injEq] at hv
   obtain ⟨rfl,_,rfl⟩:=hv
   exact ⟨fun _=>⟨_,_,rfl⟩,h1,by simp only [maxLen] at h2;omega⟩
 rw [Abl] at xJ
 rw [hsz2] at hbx
 clear hE hm1 hfirst hend rM hl1 hd1 hb1 Aao AbU Aal pK hdk uB hbl hbb hbm c0 c1 c2 c4 c5 c6 c7 hf hst hroom rJ hr2 yS qI hb
 subst hbv
 obtain ⟨hsm,hcp,hcm⟩:=tV rfl
 clear tV
 refine (callsIn_wide (n:=9)).1 ?_
 refine callsIn_of_wp_marks func235 rfl trivial ?_ rfl
 simp only [ntmps235,List.size_toArray,List.length_cons,List.length_nil,Nat.reduceAdd,Nat.reduceSub,Array.replicate_succ,Array.replicate_zero,List.push_toArray,List.append_toArray,List.nil_append,List.cons_append]
 gi_wp2_with (refine ⟨trivial,(callsIn_wide.2 (eH _ _ _ _)).mono ?_⟩;rintro e w' ⟨rfl,rfl⟩)
 clear Acb c3a f3a Ace hwr
 generalize hW3:((w.setCell ⟨p,3,none⟩ (.int .u64 (st.toNat:Int))).alloc (.cells #[.int .i64 0] 23)).alloc (.cells #[.slice ba b.length bc] 29)=W0 at *
 rw [hsz2] at hs3 hl3 hd3 hb3 uI xJ wR
 generalize ho3:Ak (Ak o (w.setCell ⟨p,3,none⟩ (.int .u64 (st.toNat:Int))).heap.size (X,0)) (w.heap.size+1) (0,0)=o0 at *
 clear hW3 ho3 hsz1 hsz2
 obtain ⟨rb,hrb⟩:∃ rb,w.heap.size=rb:=⟨_,rfl⟩
 rw [hrb] at hr3 wR hbx ⊢
 have AcF:w.heap.size ≤ rb:=by omega
 clear hrb
 have AdC:rb<W0.heap.size:=lt_of_block hr3
 obtain ⟨pv,hpv⟩:∃ pv:Nat→Value,∀ x,JV (.slice ba b.length bc) x=pv x:=⟨_,fun _=>rfl⟩
 have hpart:∀ x,x<many→Bytes W0 o0 (pv x) (Ad.part b x):=fun x hx=>by rw [←hpv];exact AiL hb3 x (by rw [Abl];exact hx)
 have wV:=hidden hpart
 have Abm:=hidden hpv
 clear hpart hpv hb3 Abl
 obtain ⟨PL,hPL⟩:∃ PL:List (Fin many)→Af × Int,∀ pre,PL pre=Gi m1 many b (pre.map (·.val)) d:=⟨_,fun _=>rfl⟩
 have qE:=hidden hPL
 clear hPL
 have own:∀ (e:Int→Prop) (val:List (Fin many)→Int),OwnFrom W0.heap.size (fun pre W=>∃ o',Step (sG L D X) W0 o0 W o'∧BZ W o' L p pd m1∧Bg W o' D pd (PL pre).1∧e (PL pre).2∧W.heap[rb]?=some (.cells #[.int .i64 (val pre)] 23 (0,0))∧o' rb=(X,0)):=by
  rintro e val pre A A' row ⟨o',hs,hl,hd,he,hr,hro⟩ hg hrow
  have hoth:Others A row:=fun r e=>(hrow r e).2
  exact ⟨ext A o',hs.kept hg (fun r e=>(hrow r e).1),hl.kept hoth hg,hd.kept hoth hg,he,hoth.same hg hr,by unfold ext;rw [if_pos (lt_of_block hr)];exact hro⟩
 obtain ⟨EQ0,Aaw⟩:∃ EQ0:Int→Prop,∀ e,EQ0 e=(e=0):=⟨_,fun _=>rfl⟩
 obtain ⟨NE0,Aav⟩:∃ NE0:Int→Prop,∀ e,NE0 e=(e ≠ 0):=⟨_,fun _=>rfl⟩
 have sJ:=hidden Aaw
 have uN:=hidden Aav
 clear Aaw Aav
 refine wpIn_rangeFunc_ownG (α:=Fin many) rfl (by omega) (gf:=255) (lb := #[.pointer (some ⟨rb+1,0,none⟩)]) rfl trivial (enters_of func255 (by kernel_rfl) rfl)
  (Zd 8 (by omega) (rb+1) ba b.length bc hsm hcp hcm (by omega) many vH.out W0 hbx.1) (fun h k=>k.trans h) (fun W l ob o' hl hk hc _ => ?hkb) (Below.refl _ _) (fun _=>rfl)
  (fun pre W=>∃ o',Step (sG L D X) W0 o0 W o'∧BZ W o' L p pd m1∧Bg W o' D pd (PL pre).1∧EQ0 (PL pre).2∧W.heap[rb]?=some (.cells #[.int .i64 0] 23 (0,0))∧o' rb=(X,0))
  (fun c pre W=>c = .ret∧∃ o',Step (sG L D X) W0 o0 W o'∧BZ W o' L p pd m1∧Bg W o' D pd (PL pre).1∧NE0 (PL pre).2∧W.heap[rb]?=some (.cells #[.int .i64 (PL pre).2] 23 (0,0))∧o' rb=(X,0))
  (own EQ0 (fun _=>0)) (fun c pre A A' row h hg hr=>⟨h.1,own NE0 (fun pre=>(PL pre).2) pre A A' row h.2 hg hr⟩)
  ⟨o0,Step.refl _ _ _,hl3,by rw [qE.out];exact hd3,by rw [qE.out,sJ.out];rfl,hr3,wR⟩
  (fun x=>{ tmps := #[.pointer (some ⟨bl,0,none⟩), .pointer (some ⟨bb,0,none⟩), .pointer (some ⟨bm,0,none⟩), .pointer (some ⟨rb,0,none⟩), .int .i64 (x.val:Int),pv x.val,undef, .pointer (some ⟨p,0,none⟩), .pointer (some ⟨p,0,none⟩), .pointer (some ⟨p,3,none⟩), .int .u64 (m.stamp.toNat:Int), .int .u64 (st.toNat:Int), .pointer (some ⟨p,0,none⟩), .pointer (some ⟨p,3,none⟩), .slice ba b.length bc, .func (.func 255) #[] #[.pointer (some ⟨rb+1,0,none⟩)], .int .i64 (x.val:Int),pv x.val,undef,undef,undef,undef,undef,undef,undef,undef,undef,undef,undef,undef,undef,undef,undef,undef,undef,undef,undef,undef,undef,undef,undef,undef,undef,undef,undef,undef,undef,undef,undef,undef,undef],defers:=[] }) ?assign ?body ?done ?stop
 case hkb =>
  show (W.putObj l o').heap[rb+1]?=W.heap[rb+1]?
  exact World.putObj_heap_other (by have:=lt_of_block hbx.1;omega)
 case assign =>
  intro l x W K hK
  simp only [Abm.out]
  gi_wp2
  exact hK
 case body =>
  rintro l pre x W ⟨o1,hs,hl,hd,he,hr,hro⟩ hlen
  have hplain:=JU (B:=W0.heap.size) (W:=W) (o:=o1) (sG L D X) xP
  replace hs:=hs.Cb (B:=W0.heap.size) (Nat.le_refl _)
  replace hl:=hl.Cb (B:=W0.heap.size)
  replace hd:=hd.Cb (B:=W0.heap.size)
  replace hro:Cb W0.heap.size W o1 rb=(X,0):=by rw [DY hr];exact hro
  generalize Cb W0.heap.size W o1=o2 at *
  clear o1
  have bl':=uI.step hs xP
  have bm':=xJ.step hs xP
  have bx':=hbx.step hs xP
  obtain ⟨x,hx⟩:=x
  have hpb:=(wV.out x hx).step hs xP
  have hrowd:(PL pre).1.row.length ≤ 900000:=by
   rw [qE.out]
   have:=PE m1 many b (pre.map (·.val)) d
   rw [List.length_map] at this;omega
  have qV:PL (pre++[⟨x,hx⟩])=(PL pre).1.write ((m1.first+m1.end'+x:Nat):Int) (AA.page ⟨m1.stamp,x,many,Ad.part b x⟩):=by
   rw [qE.out,qE.out,List.map_append,List.map_cons,List.map_nil,Rw, ←qE.out,if_neg (by rw [sJ.out] at he;omega)]
  have qW:=Ad.CX b x
  obtain ⟨pb,zB⟩:∃ pb,Ad.part b x=pb:=⟨_,rfl⟩
  rw [zB] at hpb qV qW
  clear zB
  generalize AbL:(PL pre).1=d1 at *
  clear AbL
  rw [Abd] at qV
  obtain ⟨d2,e2,hw⟩:∃ d2 e2,d1.write ((m1.first+m1.end'+x:Nat):Int) (AA.page ⟨st,x,many,pb⟩)=(d2,e2):=⟨_,_,rfl⟩
  rw [hw] at qV
  have pY:=hidden qV
  have hwH:=hidden hw
  obtain ⟨pa,pc,yX⟩:=Aq hpb
  have vY:=hl.held.cells
  obtain ⟨w1,w2,w3,w4,w5, -⟩:=hl.wf
  have hS0:W.cell? ⟨bl,0,none⟩=some (.pointer (some ⟨p,0,none⟩))∧W.cell? ⟨bm,0,none⟩=some (.int .i64 (many:Int))∧W.cell? ⟨p,0,none⟩=some (.pointer (some ⟨pd,0,none⟩))∧W.cell? ⟨p,1,none⟩=some (.int .i64 (m1.first:Int))∧W.cell? ⟨p,3,none⟩=some (.int .u64 (m1.stamp.toNat:Int))∧W.cell? ⟨p,5,none⟩=some (.int .i64 (m1.end':Int)):=⟨bl'.cell,bm'.cell,vY⟩
  have i1:(m1.first:Int) ≤ 4096:=by omega
  have i2:(m1.end':Int) ≤ 2000:=by omega
  have i3:(x:Int) ≤ 2000:=by omega
  clear qV hw he vY w1 w2 w3 w4 w5 own hlen
  rw [yX] at hpb ⊢
  clear yX
  gi_wp2
  refine OI (fun w'=>w'.cell? ⟨bl,0,none⟩=some (.pointer (some ⟨p,0,none⟩))∧w'.cell? ⟨bm,0,none⟩=some (.int .i64 (many:Int))∧w'.cell? ⟨p,0,none⟩=some (.pointer (some ⟨pd,0,none⟩))∧w'.cell? ⟨p,1,none⟩=some (.int .i64 (m1.first:Int))∧w'.cell? ⟨p,3,none⟩=some (.int .u64 (m1.stamp.toNat:Int))∧w'.cell? ⟨p,5,none⟩=some (.int .i64 (m1.end':Int))) (fun _=>true) (by kernel_rfl) (by kernel_rfl) (fun ⟨_,_,h⟩=>h) hS0 (fun hHeld => ?_)
  refine tq 0 (h:=tq 1 (h:=tq 2 (h:=tq 3 (h:=tq 4 (h:=tq 5 (h:=tq 6 (h:=tq 7 (h:=tq 8 (h:=tq 9 (h:=tq 10 (h:=tq 11 (h:=tq 12 (h:=tq 13 (h:=?_))))))))))))))
  refine tq 14 (h:=tq 15 (h:=tq 16 (h:=tq 17 (h:=tq 18 (h:=tq 19 (h:=tq 20 (h:=tq 21 (h:=tq 22 (h:=?_)))))))))
  rw [wrap_i64 (n:=(m1.first:Int)+(m1.end':Int)) (by omega) (by omega),wrap_i64 (n:=(m1.first:Int)+(m1.end':Int)+(x:Int)) (by omega) (by omega),show (m1.first:Int)+(m1.end':Int)+(x:Int)=((m1.first+m1.end'+x:Nat):Int) from by omega]
  obtain ⟨at',hat⟩:∃ at':Int,((m1.first+m1.end'+x:Nat):Int)=at':=⟨_,rfl⟩
  rw [hat]
  have hw:=hwH.out
  rw [hat] at hw
  clear hat hwH
  have hdr:Step Nobody W o2 W.drew o2:=(Step.refl _ _ _).drew
  have hl2:=hl.step hdr id id
  have hd2:=hd.step hdr id
  have zC:=hpb.step hdr id
  have qX:=PK (w:=W.drew) (o:=o2) (bv := .slice pa pb.length pc) ⟨st,x,many,pb⟩ zC qW (by show x ≤ 1000000;omega) (by show many ≤ 1000000;omega)
  have kbl:=lt_of_block bl'.1
  have kbm:=lt_of_block bm'.1
  have kpl:=hl.lt
  have keep:∀ {A A':World} {oa oa':Own},Step (Only D) A oa A' oa'→W.heap.size ≤ A.heap.size→(∀ k,k<W.heap.size→oa k=o2 k)→(A.cell? ⟨bl,0,none⟩=some (.pointer (some ⟨p,0,none⟩))∧A.cell? ⟨bm,0,none⟩=some (.int .i64 (many:Int))∧A.cell? ⟨p,0,none⟩=some (.pointer (some ⟨pd,0,none⟩))∧A.cell? ⟨p,1,none⟩=some (.int .i64 (m1.first:Int))∧A.cell? ⟨p,3,none⟩=some (.int .u64 (m1.stamp.toNat:Int))∧A.cell? ⟨p,5,none⟩=some (.int .i64 (m1.end':Int)))→(A'.cell? ⟨bl,0,none⟩=some (.pointer (some ⟨p,0,none⟩))∧A'.cell? ⟨bm,0,none⟩=some (.int .i64 (many:Int))∧A'.cell? ⟨p,0,none⟩=some (.pointer (some ⟨pd,0,none⟩))∧A'.cell? ⟨p,1,none⟩=some (.int .i64 (m1.first:Int))∧A'.cell? ⟨p,3,none⟩=some (.int .u64 (m1.stamp.toNat:Int))∧A'.cell? ⟨p,5,none⟩=some (.int .i64 (m1.end':Int))):=fun hs hle ho h=>by
   have e1:=hs.block bl (by omega) (by rw [ho bl kbl,bl'.2];exact fun e=>hD e.symm)
   have e2:=hs.block bm (by omega) (by rw [ho bm kbm,bm'.2];exact fun e=>hD e.symm)
   have e3:=hs.block p (by omega) (by rw [ho p kpl,hl.wE];exact fun e=>hLD e)
   exact ⟨(World.cell?_of_block (a:=⟨bl,0,none⟩) e1).trans h.1,(World.cell?_of_block (a:=⟨bm,0,none⟩) e2).trans h.2.1,(World.cell?_of_block (a:=⟨p,0,none⟩) e3).trans h.2.2.1,(World.cell?_of_block (a:=⟨p,1,none⟩) e3).trans h.2.2.2.1,(World.cell?_of_block (a:=⟨p,3,none⟩) e3).trans h.2.2.2.2.1,(World.cell?_of_block (a:=⟨p,5,none⟩) e3).trans h.2.2.2.2.2⟩
  refine tO 23 (h:=?_)
  go_wp2_with fail
  refine qX.mono ?_;rintro e W6 ⟨v6,o6,rfl,hs6,vG⟩
  have hS6:=keep (hs6.only D) (Nat.le_refl _) (fun _ _=>rfl) hHeld
  have hl6:=hl2.step hs6 id id
  have hd6:=hd2.step hs6 id
  have zD:=vG.bytes
  have pW:Step (In L D) W o2 W6 o6:=hdr.uV.trans hs6.uV
  have hwr:=Uk hd6 hD (by omega) at' v6 _ zD hw
  clear qX vG hl2 hd2 hdr hpb zC
  go_wp2_with fail
  refine ⟨fun _=>hS6, ?_⟩
  refine tO 24 (h:=?_)
  go_wp2_with fail
  refine hwr.mono ?_;rintro e W7 ⟨v7,o7,rfl,hs7,rfl,hd7⟩
  have Abb:W.heap.size ≤ W6.heap.size:=pW.size
  have hS7:=keep hs7 Abb (fun k hk=>pW.own k hk) hS6
  have wY:=hl6.step hs7 (fun e=>hLD e) (fun e=>hD e.symm)
  have qF:Step (In L D) W o2 W7 o7:=pW.trans hs7.inD
  clear hwr hl6 hd6 hs6 hs7 zD pW hHeld keep
  go_wp2_with fail
  refine ⟨fun _=>hS7, ?_⟩
  refine tO 25 (h:=?_)
  go_wp2_with fail
  refine ⟨fun _=>hS7, ?_⟩
  refine tD (h:=?_)
  have hrX:¬ In L D (o2 rb).1:=by rw [hro];rintro (h | h);exact hX.2.1 h;exact hX.2.2 h
  have hrl:=lt_of_block hr
  have yU:W7.heap[rb]?=some (.cells #[.int .i64 0] 23 (0,0)):=(qF.block rb hrl hrX).trans hr
  have wQ:o7 rb=(X,0):=(qF.own rb hrl).trans hro
  have uY:Step (sG L D X) W o2 W7 o7:=qF.mono (fun k h=>by rcases h with h | h;exact .inl h;exact .inr (.inl h))
  have rZ:W7.heap[rb+1]?=W.heap[rb+1]?:=qF.block (rb+1) (lt_of_block bx'.1) (by rw [bx'.2];exact hN)
  by_cases he2:e2=0
  ·have hI:∃ o',Step (sG L D X) W0 o0 W7 o'∧BZ W7 o' L p pd m1∧Bg W7 o' D pd (PL (pre++[⟨x,hx⟩])).1∧EQ0 (PL (pre++[⟨x,hx⟩])).2∧W7.heap[rb]?=some (.cells #[.int .i64 0] 23 (0,0))∧o' rb=(X,0):=
    ⟨o7,hs.trans uY,wY,by rw [pY.out];exact hd7,by rw [pY.out,sJ.out];exact he2,yU,wQ⟩
   have hIH:=hidden hI
   have xQ:=hidden (hplain.keeps uY)
   subst he2
   clear hI hS7 hS6 wY hd7
   gi_wp2
   exact ⟨xQ.out,rZ,hIH.out⟩
  ·have hne:(e2 != 0)=true:=by simpa using he2
   have fr7:=Ap yU 0
   have cr7:W7.cell? ⟨rb,0,none⟩=some (.int .i64 0):=cell_of_one yU
   have hset:=(Step.refl (Only X) W7 o7).setCell (a:=⟨rb,0,none⟩) (.int .i64 e2) (.inl (by show (o7 rb).1=X;rw [wQ]))
   have tJ:Step (sG L D X) W7 o7 _ o7:=hset.mono (fun k h=>(.inr (.inr h):sG L D X k))
   have vU:=Ai (i:=0) (.int .i64 e2) yU
   simp only [DL] at vU
   have hI:∃ o',Step (sG L D X) W0 o0 (W7.setCell ⟨rb,0,none⟩ (.int .i64 e2)) o'∧BZ (W7.setCell ⟨rb,0,none⟩ (.int .i64 e2)) o' L p pd m1∧Bg (W7.setCell ⟨rb,0,none⟩ (.int .i64 e2)) o' D pd (PL (pre++[⟨x,hx⟩])).1∧NE0 (PL (pre++[⟨x,hx⟩])).2∧(W7.setCell ⟨rb,0,none⟩ (.int .i64 e2)).heap[rb]?=some (.cells #[.int .i64 (PL (pre++[⟨x,hx⟩])).2] 23 (0,0))∧o' rb=(X,0):=
    ⟨o7,(hs.trans uY).trans tJ,wY.step hset (fun e=>hX.2.1 e.symm) (fun e=>hX.1 e.symm),by rw [pY.out];exact hd7.step hset (fun e=>hX.2.2 e.symm),by rw [pY.out,uN.out];exact he2,by rw [pY.out];exact vU,wQ⟩
   have hIH:=hidden hI
   have xQ:=hidden (hplain.keeps (uY.trans tJ))
   clear hI hS7 hS6 wY hd7 he2 hset tJ vU yU
   gi_wp2
   exact ⟨xQ.out,rfl,hIH.out⟩
 case done =>
  rintro D' xs W hD' hxs ⟨o1,hs,hl,hd,he,hr,hro⟩ hK
  have hplain:=JU (B:=W0.heap.size) (W:=W) (o:=o1) (sG L D X) xP
  replace hs:=hs.Cb (B:=W0.heap.size) (Nat.le_refl _)
  replace hl:=hl.Cb (B:=W0.heap.size)
  replace hd:=hd.Cb (B:=W0.heap.size)
  replace hro:Cb W0.heap.size W o1 rb=(X,0):=by rw [DY hr];exact hro
  generalize Cb W0.heap.size W o1=o2 at *
  clear o1
  have hKt:=hplain D' _ hD' hK rfl
  have hrow1:(PL xs).1.row.length ≤ 1000000:=by
   rw [qE.out,hxs]
   have:=PE m1 many b (List.range many) d
   rw [List.length_range] at this;omega
  have hE1:(Gi m1 many b (List.range many) d).2=0:=by rw [←hxs, ←qE.out];rw [sJ.out] at he;exact he
  rw [qE.out,hxs] at hd hrow1
  rw [if_neg (by rw [hE1];simp)] at hEH
  generalize (Gi m1 many b (List.range many) d).1=dN at *
  obtain ⟨d2,e2,hy⟩:∃ d2 e2,dN.sync=(d2,e2):=⟨_,_,rfl⟩
  rw [hy] at hEH
  have hsy:=XD hd hrow1 hy
  have cl':=(uI.step hs xP).cell
  obtain ⟨h0, -⟩:=hl.held.cells
  have hrl:=lt_of_block hr
  have hKl:=(Array.getElem?_eq_some_iff.1 hK).1
  clear he hy hE1 own hplain hd hxs
  gi_wp2_with (
    refine ⟨trivial,(callsIn_wide.2 hsy).mono ?_⟩;rintro e W8 ⟨v8,o8,rfl,hs8,rfl,hd8⟩
    have vU:W8.heap[rb]?=_:=(hs8.block rb hrl (by rw [hro];exact fun e=>hX.2.2 e)).trans hr
    have Abk:o8 rb=(X,0):=(hs8.own rb hrl).trans hro
    have hK8:W8.heap[D']?=_:=(hs8.block D' hKl (fun e=>hKt (.inr (.inl e)))).trans hK
    have fr8:=Ap vU 0
    have cr8:W8.cell? ⟨rb,0,none⟩=some (.int .i64 0):=cell_of_one vU
    have hl8:=hl.step hs8 (fun e=>hLD e) (fun e=>hD e.symm)
    have hset:=(Step.refl (Only X) W8 o8).setCell (a:=⟨rb,0,none⟩) (.int .i64 e2) (.inl (by show (o8 rb).1=X;rw [Abk]))
    have hr9:=Ai (i:=0) (.int .i64 e2) vU
    simp only [DL] at hr9
    have hl9:=hl8.step hset (fun e=>hX.2.1 e.symm) (fun e=>hX.1 e.symm)
    have hd9:=hd8.step hset (fun e=>hX.2.2 e.symm)
    have hK9:(W8.setCell ⟨rb,0,none⟩ (.int .i64 e2)).heap[D']?=_:=(Below.heap_setCell _ _ _ _ (by show D' ≠ rb;omega)).trans hK8
    have wL:=((hs3.trans hs).trans (hs8.mono (fun k h=>(.inr (.inl h):sG L D X k)))).trans (hset.mono (fun k h=>(.inr (.inr h):sG L D X k)))
    clear hsy hs8 hl8 hd8 hset vU hK8)
  have hoth:Others (W8.setCell ⟨rb,0,none⟩ (.int .i64 e2)) (some D'):=fun r e=>by cases e;exact ⟨_,hK9,rfl⟩
  have hg:=grownBy_putObj' (W8.setCell ⟨rb,0,none⟩ (.int .i64 e2)) D' (.deferred none)
  have hc5:((W8.setCell ⟨rb,0,none⟩ (.int .i64 e2)).putObj D' (.deferred none)).cell? ⟨rb,0,none⟩=some (.int .i64 e2):=hoth.cell hg (cell_of_one hr9)
  refine ⟨by simp, .inl ⟨_,_,rfl,run_takeDeferred hK9, ?_⟩⟩
  refine ⟨.int .i64 e2, ?_, ?_⟩
  ·simp [results,Tryz.f235,go_sem,hc5]
  ·rw [hEH.out]
   refine ⟨_,ext (W8.setCell ⟨rb,0,none⟩ (.int .i64 e2)) o8,rfl, ?_,rfl,hl9.kept hoth hg,hd9.kept hoth hg⟩
   exact Step.fA (wL.kept hg (fun r e=>by cases e;have:=hs3.size;omega)) hXf
 case stop =>
  rintro D' c pre W hD' ⟨k,hk,hk1,hpre⟩ ⟨rfl,o1,hs,hl,hd,he,hr,hro⟩ hK
  have vM:PL pre=Gi m1 many b (List.range many) d:=by
   rw [uN.out,qE.out,hpre] at he
   rw [qE.out,hpre,show List.range many=List.range k++(List.range (many - k)).map (k + ·) from by rw [←List.range_add];congr 1;omega,UU _ _ _ _ _ _ he]
  have hEN:(Gi m1 many b (List.range many) d).2 ≠ 0:=by rw [←vM];rw [uN.out] at he;exact he
  rw [if_pos hEN] at hEH
  rw [vM] at hd hr
  obtain ⟨dN,eN,hN1⟩:∃ dN eN,Gi m1 many b (List.range many) d=(dN,eN):=⟨_,_,rfl⟩
  rw [hN1] at hd hr hEH
  have wL:=hs3.trans hs
  clear he vM hEN own hpre hN1
  gi_wp2
  have hoth:Others W (some D'):=fun r e=>by cases e;exact ⟨_,hK,rfl⟩
  have hg:=grownBy_putObj' W D' (.deferred none)
  have hc5:(W.putObj D' (.deferred none)).cell? ⟨rb,0,none⟩=some (.int .i64 eN):=hoth.cell hg (cell_of_one hr)
  refine ⟨by simp, .inl ⟨_,_,rfl,run_takeDeferred hK, ?_⟩⟩
  refine ⟨.int .i64 eN, ?_, ?_⟩
  ·simp [results,Tryz.f235,go_sem,hc5]
  ·rw [hEH.out]
   refine ⟨_,ext W o1,rfl, ?_,rfl,hl.kept hoth hg,hd.kept hoth hg⟩
   exact Step.fA (wL.kept hg (fun r e=>by cases e;have:=hs3.size;omega)) hXf
end
namespace Ad
abbrev bY:=(Ad × Af)→(Ad × Af) × Int
def oP (fs:List bY) (s:Ad × Af):Nat→Ad × Af
 | 0=>s
 | i+1=>match fs[i]? with
  | some f=>(f (oP fs s i)).1
  | none=>oP fs s i
def erN (fs:List bY) (s:Ad × Af) (i:Nat):Int:=match fs[i]? with
 | some f=>(f (oP fs s i)).2
 | none=>0
theorem LQ (fs:List bY) (s:Ad × Af):∀ (n i:Nat),i+n=fs.length→goes (oP fs s) (erN fs s) i n=steps (fs.drop i) (oP fs s i)
 | 0,i,h=>by
  rw [List.drop_eq_nil_of_le (by omega)];rfl
 | n+1,i,h=>by
  have hi:i<fs.length:=by omega
  rw [List.drop_eq_getElem_cons hi]
  unfold goes steps
  have h1:erN fs s i=(fs[i] (oP fs s i)).2:=by unfold erN;rw [List.getElem?_eq_getElem hi]
  have h2:oP fs s (i+1)=(fs[i] (oP fs s i)).1:=by
    conv=>lhs;unfold oP
    rw [List.getElem?_eq_getElem hi]
  rw [h1,h2]
  by_cases he:(fs[i] (oP fs s i)).2 ≠ 0
  ·rw [if_pos he,if_pos he]
  ·rw [if_neg he,if_neg he,LQ fs s n (i+1) (by omega),h2]
theorem WH (b:List UInt8) (s:Ad × Af):(step1 b s).1=s:=by unfold step1;split <;> rfl
theorem RJ (s:Ad × Af):(head s).1.1={ s.1 with stamp:=s.1.stamp+1#64 }∧(head s).1.2.row.length ≤ s.2.row.length+1:=by
 unfold head
 have h1:=Af.Nz s.2 (s.1.first:Int) (AA.page ⟨s.1.stamp+1#64,0,0,[]⟩)
 have h2:=Af.ZJ (s.2.write (s.1.first:Int) (AA.page ⟨s.1.stamp+1#64,0,0,[]⟩)).1
 dsimp only
 split
 ·exact ⟨rfl,h1⟩
 ·exact ⟨rfl,by dsimp only;omega⟩
theorem WG (s:Ad × Af):(step2 s).1.1.n=s.1.n∧(step2 s).1.1.end'=s.1.end'∧(step2 s).1.2.row.length ≤ s.2.row.length+1:=by
 unfold step2
 split
 ·exact ⟨rfl,rfl,by show s.2.row.length ≤ _;omega⟩
 ·obtain ⟨h1,h2⟩:=RJ s
  dsimp only
  exact ⟨by rw [h1],by rw [h1],h2⟩
theorem WF (b:List UInt8) (s:Ad × Af):(step3 b s).1.1.n=s.1.n∧(step3 b s).1.1.end'=s.1.end':=by
 unfold step3
 dsimp only
 split <;> exact ⟨rfl,rfl⟩
end Ad
theorem Qe (w:World) (o:Own) (e:TypeId) (vs:List Value) (n:Nat) (hn:vs.length=n) (hl:n ≤ 1000000):sH (w.alloc (.cells vs.toArray e)) (Ak o w.heap.size (0,0)) (.slice (some ⟨w.heap.size,0,none⟩) n n) n vs:=by
 subst hn;exact SC w o e vs hl
section
variable {w:World} {o:Own} {L D p pd:Nat} {s:Ad × Af}
theorem Xt (hL:L ≠ 0) (hD:D ≠ 0) (hLD:L ≠ D) (h:LD w o L D p pd s) (hrow:s.2.row.length ≤ 700000) (b:List UInt8) (bv:Value) (hb:Bytes w o bv b) (hcapb:capLe bv) (rF:b.length ≤ 200000000000000) :
  Calls prog 181 #[.pointer (some ⟨p,0,none⟩),bv] w (XL (In L D) w o fun v w' o'=>v = .int .i64 (Ad.Ag b s).2∧LD w' o' L D p pd (Ad.Ag b s).1):=by
 have hN:¬ In L D 0:=fun h=>by rcases h with h | h <;> omega
 have hmE:(Ad.many b:Int)=max 1 (((b.length:Int)+479) / 480):=by unfold Ad.many;omega
 have Aex:Ad.many b ≤ 1000000000000:=by unfold Ad.many;omega
 have hrd:Ad.many b ≤ 2000→b.length ≤ 960000:=by intro h;unfold Ad.many at h;omega
 obtain ⟨many,Abl⟩:∃ many,Ad.many b=many:=⟨_,rfl⟩
 obtain ⟨ba,bc,rfl⟩:=Aq hb
 have s1:=(Step.refl Nobody w o).alloc (.cells #[.pointer (some ⟨p,0,none⟩)] 162) (0,0)
 have bl:=Box.new w o 162 (.pointer (some ⟨p,0,none⟩))
 have z1:(w.alloc (.cells #[.pointer (some ⟨p,0,none⟩)] 162)).heap.size=w.heap.size+1:=by simp
 have s2:=(Step.refl Nobody (w.alloc (.cells #[.pointer (some ⟨p,0,none⟩)] 162)) (Ak o w.heap.size (0,0))).alloc (.cells #[.slice ba b.length bc] 29) (0,0)
 have bb:=Box.new (w.alloc (.cells #[.pointer (some ⟨p,0,none⟩)] 162)) (Ak o w.heap.size (0,0)) 29 (.slice ba b.length bc)
 rw [z1] at s2 bb
 have z2:((w.alloc (.cells #[.pointer (some ⟨p,0,none⟩)] 162)).alloc (.cells #[.slice ba b.length bc] 29)).heap.size=w.heap.size+1+1:=by simp
 have s3:=(Step.refl Nobody ((w.alloc (.cells #[.pointer (some ⟨p,0,none⟩)] 162)).alloc (.cells #[.slice ba b.length bc] 29)) (Ak (Ak o w.heap.size (0,0)) (w.heap.size+1) (0,0))).alloc (.cells #[.int .i64 (many:Int)] 3) (0,0)
 have bm:=Box.new ((w.alloc (.cells #[.pointer (some ⟨p,0,none⟩)] 162)).alloc (.cells #[.slice ba b.length bc] 29)) (Ak (Ak o w.heap.size (0,0)) (w.heap.size+1) (0,0)) 3 (.int .i64 (many:Int))
 rw [z2] at s3 bm
 have sT:=(s1.trans s2).trans s3
 have bl3:=(bl.step s2 id).step s3 id
 have bb3:=bb.step s3 id
 have hld:=h.step sT id id id
 have hb3:=hb.step sT id
 have i1:(b.length:Int) ≤ 200000000000000:=by omega
 have zV:max 1 (((b.length:Int)+480 - 1) / 480)=(many:Int):=by rw [←Abl,hmE];omega
 clear s1 s2 s3 bl bb hb h z1
 have hal:Hid (Calls prog 231 #[.pointer (some ⟨p,0,none⟩), .slice (some ⟨w.heap.size+1+1+1,0,none⟩) 4 4]
   ((((w.alloc (.cells #[.pointer (some ⟨p,0,none⟩)] 162)).alloc (.cells #[.slice ba b.length bc] 29)).alloc (.cells #[.int .i64 (many:Int)] 3)).alloc (.cells #[.func (.func 232) #[] #[.pointer (some ⟨w.heap.size+1+1,0,none⟩), .pointer (some ⟨w.heap.size,0,none⟩)], .func (.func 233) #[] #[.pointer (some ⟨w.heap.size,0,none⟩)], .func (.func 235) #[] #[.pointer (some ⟨w.heap.size,0,none⟩), .pointer (some ⟨w.heap.size+1,0,none⟩), .pointer (some ⟨w.heap.size+1+1,0,none⟩)], .func (.func 239) #[] #[.pointer (some ⟨w.heap.size,0,none⟩), .pointer (some ⟨w.heap.size+1,0,none⟩), .pointer (some ⟨w.heap.size+1+1,0,none⟩)]] 214))
   (XL (In L D) w o fun v w' o'=>v = .int .i64 (Ad.Ag b s).2∧LD w' o' L D p pd (Ad.Ag b s).1)):=by
  refine hidden ?_
  have z3:(((w.alloc (.cells #[.pointer (some ⟨p,0,none⟩)] 162)).alloc (.cells #[.slice ba b.length bc] 29)).alloc (.cells #[.int .i64 (many:Int)] 3)).heap.size=w.heap.size+1+1+1:=by simp
  generalize ((w.alloc (.cells #[.pointer (some ⟨p,0,none⟩)] 162)).alloc (.cells #[.slice ba b.length bc] 29)).alloc (.cells #[.int .i64 (many:Int)] 3)=W3 at *
  generalize Ak (Ak (Ak o w.heap.size (0,0)) (w.heap.size+1) (0,0)) (w.heap.size+1+1) (0,0)=o3 at *
  obtain ⟨x1,hx1⟩:∃ x1,w.heap.size+1=x1:=⟨_,rfl⟩
  obtain ⟨x2,hx2⟩:∃ x2,x1+1=x2:=⟨_,rfl⟩
  rw [hx1] at bb3 bm z3 ⊢
  rw [hx2] at bm z3 ⊢
  generalize w.heap.size=x0 at bl3 ⊢
  have s4:=(Step.refl Nobody W3 o3).alloc (.cells #[.func (.func 232) #[] #[.pointer (some ⟨x2,0,none⟩), .pointer (some ⟨x0,0,none⟩)], .func (.func 233) #[] #[.pointer (some ⟨x0,0,none⟩)], .func (.func 235) #[] #[.pointer (some ⟨x0,0,none⟩), .pointer (some ⟨x1,0,none⟩), .pointer (some ⟨x2,0,none⟩)], .func (.func 239) #[] #[.pointer (some ⟨x0,0,none⟩), .pointer (some ⟨x1,0,none⟩), .pointer (some ⟨x2,0,none⟩)]] 214) (0,0)
  have hsl:=Qe W3 o3 214 [.func (.func 232) #[] #[.pointer (some ⟨x2,0,none⟩), .pointer (some ⟨x0,0,none⟩)], .func (.func 233) #[] #[.pointer (some ⟨x0,0,none⟩)], .func (.func 235) #[] #[.pointer (some ⟨x0,0,none⟩), .pointer (some ⟨x1,0,none⟩), .pointer (some ⟨x2,0,none⟩)], .func (.func 239) #[] #[.pointer (some ⟨x0,0,none⟩), .pointer (some ⟨x1,0,none⟩), .pointer (some ⟨x2,0,none⟩)]] 4 rfl (by omega)
  rw [z3] at hsl
  have Ada:=hld.step s4 id id id
  have hb4:=hb3.step s4 id
  have bl4:=bl3.step s4 id
  have bb4:=bb3.step s4 id
  have bm4:=bm.step s4 id
  have xW:Step (In L D) w o _ _:=(sT.trans s4).uV
  rw [z3] at s4 Ada hb4 bl4 bb4 bm4 xW
  clear hsl
  have hsl:=Qe W3 o3 214 [.func (.func 232) #[] #[.pointer (some ⟨x2,0,none⟩), .pointer (some ⟨x0,0,none⟩)], .func (.func 233) #[] #[.pointer (some ⟨x0,0,none⟩)], .func (.func 235) #[] #[.pointer (some ⟨x0,0,none⟩), .pointer (some ⟨x1,0,none⟩), .pointer (some ⟨x2,0,none⟩)], .func (.func 239) #[] #[.pointer (some ⟨x0,0,none⟩), .pointer (some ⟨x1,0,none⟩), .pointer (some ⟨x2,0,none⟩)]] 4 rfl (by omega)
  rw [z3] at hsl
  generalize hW4:W3.alloc (.cells #[.func (.func 232) #[] #[.pointer (some ⟨x2,0,none⟩), .pointer (some ⟨x0,0,none⟩)], .func (.func 233) #[] #[.pointer (some ⟨x0,0,none⟩)], .func (.func 235) #[] #[.pointer (some ⟨x0,0,none⟩), .pointer (some ⟨x1,0,none⟩), .pointer (some ⟨x2,0,none⟩)], .func (.func 239) #[] #[.pointer (some ⟨x0,0,none⟩), .pointer (some ⟨x1,0,none⟩), .pointer (some ⟨x2,0,none⟩)]] 214)=W4 at *
  have Abg:=hsl
  generalize Ak o3 (x2+1) (0,0)=o4 at *
  clear hsl hW4
  cases hdd:(s.1.dead || s.2.dead) with
  | true =>
   have hE:Ad.Ag b s=(s,9):=by unfold Ad.Ag Ad.alive;rw [if_pos hdd]
   refine (Qv Ada hdd _ _ _).mono ?_
   rintro e w' ⟨v,o',rfl,hs,rfl⟩
   rw [hE]
   exact ⟨_,o',rfl,xW.trans hs.uV,rfl,Ada.step hs id id id⟩
  | false =>
   obtain ⟨fs,hfs⟩:∃ fs:List Ad.bY,fs=[Ad.step1 b,Ad.step2,Ad.step3 b,Ad.step4 b]:=⟨_,rfl⟩
   have hE:Ad.Ag b s=Ad.goes (Ad.oP fs s) (Ad.erN fs s) 0 4:=by
    rw [Ad.LQ fs s 4 0 (by rw [hfs];rfl)]
    unfold Ad.Ag Ad.alive
    rw [if_neg (by rw [hdd];simp),hfs];rfl
   have e1:Ad.oP fs s 1=(Ad.step1 b s).1∧Ad.erN fs s 0=(Ad.step1 b s).2:=by rw [hfs];exact ⟨rfl,rfl⟩
   have e2:Ad.oP fs s 2=(Ad.step2 (Ad.oP fs s 1)).1∧Ad.erN fs s 1=(Ad.step2 (Ad.oP fs s 1)).2:=by rw [hfs];exact ⟨rfl,rfl⟩
   have e3:Ad.oP fs s 3=(Ad.step3 b (Ad.oP fs s 2)).1∧Ad.erN fs s 2=(Ad.step3 b (Ad.oP fs s 2)).2:=by rw [hfs];exact ⟨rfl,rfl⟩
   have e4:Ad.oP fs s 4=(Ad.step4 b (Ad.oP fs s 3)).1∧Ad.erN fs s 3=(Ad.step4 b (Ad.oP fs s 3)).2:=by rw [hfs];exact ⟨rfl,rfl⟩
   clear hfs
   have q1:Ad.oP fs s 1=s:=e1.1.trans (Ad.WH b s)
   have r0:Ad.erN fs s 0=0→many ≤ s.1.n - s.1.end':=by
    rw [e1.2];unfold Ad.step1
    rw [Abl]
    intro h
    split at h
    ·cases h
    ·omega
   have q2:=Ad.WG (Ad.oP fs s 1)
   rw [←e2.1,q1] at q2
   have q3:=Ad.WF b (Ad.oP fs s 2)
   rw [←e3.1] at q3
   have hwf:=hld.1.wf
   refine (alive_any hL hD hLD (Ad.oP fs s) (Ad.erN fs s) Ada hdd 4 (by omega) _ rfl (fun i=>[232,233,235,239].getD i 0) (fun _ => #[]) (fun i=>([#[.pointer (some ⟨x2,0,none⟩), .pointer (some ⟨x0,0,none⟩)], #[.pointer (some ⟨x0,0,none⟩)], #[.pointer (some ⟨x0,0,none⟩), .pointer (some ⟨x1,0,none⟩), .pointer (some ⟨x2,0,none⟩)], #[.pointer (some ⟨x0,0,none⟩), .pointer (some ⟨x1,0,none⟩), .pointer (some ⟨x2,0,none⟩)]]:List (Array Value)).getD i #[]) ?_ ?_ _ _ Abg ?_).mono ?_
   ·intro i hi
    have:i=0 ∨ i=1 ∨ i=2 ∨ i=3:=by omega
    rcases this with rfl | rfl | rfl | rfl <;> rfl
   ·intro i args x hi
    have:i=0 ∨ i=1 ∨ i=2 ∨ i=3:=by omega
    rcases this with rfl | rfl | rfl | rfl
    ·exact Tryz.call232 args x
    ·exact Tryz.call233 args x
    ·exact Tryz.call235 args x
    ·exact Tryz.call239 args x
   ·intro i hi hj w1 o1 hst hl1
    have B0:=bl4.step hst hN
    have B1:=bb4.step hst hN
    have B2:=bm4.step hst hN
    have Bb:=hb4.step hst hN
    rw [←Abl] at B2
    have:i=0 ∨ i=1 ∨ i=2 ∨ i=3:=by omega
    rcases this with rfl | rfl | rfl | rfl
    ·have:=Yk (s:=Ad.oP fs s 0) hl1 b Aex x2 x0 B2 B0
     show Calls prog 232 _ w1 _
     rw [e1.1,e1.2];exact this
    ·have:=Yj hL hD hLD hl1 (by rw [q1];omega) x0 B0
     show Calls prog 233 _ w1 _
     rw [e2.1,e2.2];exact this
    ·have hr:=r0 (hj 0 (by omega))
     have:=Yi hL hD hLD hl1 (by omega) b _ Bb hcapb (by rw [q2.1,q2.2.1,Abl];exact hr) (hrd (by rw [Abl];obtain ⟨_,_,h3,_⟩:=hwf;omega)) x0 x1 x2 B0 B1 B2
     show Calls prog 235 _ w1 _
     rw [e3.1,e3.2];exact this
    ·have hr:=r0 (hj 0 (by omega))
     have:=Yh hL hLD hl1 b _ Bb (by rw [q3.1,q3.2,q2.1,q2.2.1,Abl];exact hr) (hrd (by rw [Abl];obtain ⟨_,_,h3,_⟩:=hwf;omega)) x0 x1 x2 B0 B1 B2
     show Calls prog 239 _ w1 _
     rw [e4.1,e4.2];exact this
   ·rintro e w' ⟨v,o',rfl,hs,rfl,hl⟩
    rw [hE]
    exact ⟨_,o',rfl,xW.trans hs,rfl,hl⟩
 clear hld hb3 bl3 bb3 bm sT hmE z2
 by_cases hq:((b.length:Int)+480 - 1) / 480 ≤ 1
 rotate_left
 ·have e:((b.length:Int)+480 - 1) / 480=(many:Int):=by omega
  rw [←e] at hal
  clear e zV Abl
  go_enter func181,ntmps181
  go_wp2_with fail
  refine hal.out.mono ?_;rintro e w' ⟨v,o',rfl,hs,rfl,hl⟩
  go_wp2_with fail
  go_ret
  exact ⟨_,o',rfl,hs,rfl,hl⟩
 ·have e:(1:Int)=(many:Int):=by omega
  rw [←e] at hal
  clear e zV Abl
  go_enter func181,ntmps181
  go_wp2_with fail
  refine hal.out.mono ?_;rintro e w' ⟨v,o',rfl,hs,rfl,hl⟩
  go_wp2_with fail
  go_ret
  exact ⟨_,o',rfl,hs,rfl,hl⟩
end
section
variable {w:World} {o:Own} {L D p pd:Nat} {s:Ad × Af}
theorem Yz (hL:L ≠ 0) (hD:D ≠ 0) (hLD:L ≠ D) (h:LD w o L D p pd s) (hrow:s.2.row.length ≤ 700000) :
  Calls prog 183 #[.pointer (some ⟨p,0,none⟩)] w (XL (In L D) w o fun v w' o'=>v = .int .i64 (Ad.reset s).2∧LD w' o' L D p pd (Ad.reset s).1):=by
 have hN:¬ In L D 0:=fun h=>by rcases h with h | h <;> omega
 have s1:=(Step.refl Nobody w o).alloc (.cells #[.pointer (some ⟨p,0,none⟩)] 162) (0,0)
 have bl:=Box.new w o 162 (.pointer (some ⟨p,0,none⟩))
 have z1:(w.alloc (.cells #[.pointer (some ⟨p,0,none⟩)] 162)).heap.size=w.heap.size+1:=by simp
 have hld:=h.step s1 id id id
 have hal:Hid (Calls prog 231 #[.pointer (some ⟨p,0,none⟩), .slice (some ⟨w.heap.size+1,0,none⟩) 2 2]
   ((w.alloc (.cells #[.pointer (some ⟨p,0,none⟩)] 162)).alloc (.cells #[.func (.func 234) #[.pointer (some ⟨p,0,none⟩)] #[], .func (.func 240) #[] #[.pointer (some ⟨w.heap.size,0,none⟩)]] 214))
   (XL (In L D) w o fun v w' o'=>v = .int .i64 (Ad.reset s).2∧LD w' o' L D p pd (Ad.reset s).1)):=by
  refine hidden ?_
  generalize w.alloc (.cells #[.pointer (some ⟨p,0,none⟩)] 162)=W3 at *
  generalize Ak o w.heap.size (0,0)=o3 at *
  rw [←z1]
  generalize w.heap.size=x0 at bl ⊢
  have s4:=(Step.refl Nobody W3 o3).alloc (.cells #[.func (.func 234) #[.pointer (some ⟨p,0,none⟩)] #[], .func (.func 240) #[] #[.pointer (some ⟨x0,0,none⟩)]] 214) (0,0)
  have hsl:=Qe W3 o3 214 [.func (.func 234) #[.pointer (some ⟨p,0,none⟩)] #[], .func (.func 240) #[] #[.pointer (some ⟨x0,0,none⟩)]] 2 rfl (by omega)
  have Ada:=hld.step s4 id id id
  have bl4:=bl.step s4 id
  have xW:Step (In L D) w o _ _:=(s1.trans s4).uV
  cases hdd:(s.1.dead || s.2.dead) with
  | true =>
   have hE:Ad.reset s=(s,9):=by unfold Ad.reset Ad.alive;rw [if_pos hdd]
   refine (Qv Ada hdd _ _ _).mono ?_
   rintro e w' ⟨v,o',rfl,hs,rfl⟩
   rw [hE]
   exact ⟨_,o',rfl,xW.trans hs.uV,rfl,Ada.step hs id id id⟩
  | false =>
   obtain ⟨fs,hfs⟩:∃ fs:List Ad.bY,fs=[Ad.head,Ad.Hr]:=⟨_,rfl⟩
   have hE:Ad.reset s=Ad.goes (Ad.oP fs s) (Ad.erN fs s) 0 2:=by
    rw [Ad.LQ fs s 2 0 (by rw [hfs];rfl)]
    unfold Ad.reset Ad.alive
    rw [if_neg (by rw [hdd];simp),hfs];rfl
   have e1:Ad.oP fs s 1=(Ad.head s).1∧Ad.erN fs s 0=(Ad.head s).2:=by rw [hfs];exact ⟨rfl,rfl⟩
   have e2:Ad.oP fs s 2=(Ad.Hr (Ad.oP fs s 1)).1∧Ad.erN fs s 1=(Ad.Hr (Ad.oP fs s 1)).2:=by rw [hfs];exact ⟨rfl,rfl⟩
   clear hfs
   refine (alive_any hL hD hLD (Ad.oP fs s) (Ad.erN fs s) Ada hdd 2 (by omega) _ rfl (fun i=>[234,240].getD i 0) (fun i=>([#[.pointer (some ⟨p,0,none⟩)], #[]]:List (Array Value)).getD i #[]) (fun i=>([#[], #[.pointer (some ⟨x0,0,none⟩)]]:List (Array Value)).getD i #[]) ?_ ?_ _ _ hsl ?_).mono ?_
   ·intro i hi
    have:i=0 ∨ i=1:=by omega
    rcases this with rfl | rfl <;> rfl
   ·intro i args x hi
    have:i=0 ∨ i=1:=by omega
    rcases this with rfl | rfl
    ·exact Tryz.call234 args x
    ·exact Tryz.call240 args x
   ·intro i hi hj w1 o1 hst hl1
    have B0:=bl4.step hst hN
    have:i=0 ∨ i=1:=by omega
    rcases this with rfl | rfl
    ·have:=VB (s:=Ad.oP fs s 0) hL hD hLD hl1 (by show s.2.row.length ≤ 900000;omega)
     show Calls prog 234 _ w1 _
     rw [e1.1,e1.2];exact this
    ·have:=WS hL hLD hl1 x0 B0
     show Calls prog 240 _ w1 _
     rw [e2.1,e2.2];exact this
   ·rintro e w' ⟨v,o',rfl,hs,rfl,hl⟩
    rw [hE]
    exact ⟨_,o',rfl,xW.trans hs,rfl,hl⟩
 clear hld bl s1 h z1
 go_enter func183,ntmps183
 go_wp2_with fail
 refine hal.out.mono ?_;rintro e w' ⟨v,o',rfl,hs,rfl,hl⟩
 go_wp2_with fail
 go_ret
 exact ⟨_,o',rfl,hs,rfl,hl⟩
end
def Le (w w':World) (vs:List Value) (ls:List (List UInt8)):Prop:=vs.length=ls.length∧∀ (i:Nat) v l,vs[i]?=some v→ls[i]?=some l→w'.ownsRow w.heap.size 5 1 v l.length (bvs l)
theorem Le.below {w w' w'':World} {vs:List Value} {ls:List (List UInt8)} (h:Le w w' vs ls) (hb:Below w'.heap.size w' w''):Le w w'' vs ls:=
 ⟨h.1,fun i v l hv hl=>by
  have:=h.2 i v l hv hl
  refine ⟨this.1, ?_⟩
  rcases this.2 with hn | ⟨g,cap,cur,rfl,h1,h2,rest⟩
  ·exact .inl hn
  ·exact .inr ⟨g,cap,cur,rfl,h1,by rw [hb.block g (lt_of_block h2)];exact h2,rest⟩⟩
theorem Le.snoc {w w':World} {vs:List Value} {ls:List (List UInt8)} {v:Value} {l:List UInt8} (h:Le w w' vs ls) (hb:w'.ownsRow w.heap.size 5 1 v l.length (bvs l)):Le w w' (vs++[v]) (ls++[l]):=by
 refine ⟨by simp [h.1],fun i v' l' hv hl => ?_⟩
 by_cases hi:i<vs.length
 ·rw [List.getElem?_append_left hi] at hv
  rw [List.getElem?_append_left (by rw [←h.1];exact hi)] at hl
  exact h.2 i v' l' hv hl
 ·rw [List.getElem?_append_right (by omega)] at hv
  rw [List.getElem?_append_right (by rw [←h.1];omega), ←h.1] at hl
  cases hj:i - vs.length with
  | zero=>rw [hj] at hv hl;simp at hv hl;subst hv;subst hl;exact hb
  | succ j=>rw [hj] at hv;simp at hv
theorem ownsRow_base {w:World} {b b':Nat} {e:TypeId} {size n:Nat} {v:Value} {xs:List Value} (h:w.ownsRow b' e size v n xs) (hb:b ≤ b'):w.ownsRow b e size v n xs:=by
 refine ⟨h.1, ?_⟩
 rcases h.2 with hn | ⟨g,cap,cur,rfl,h1,rest⟩
 ·exact .inl hn
 ·exact .inr ⟨g,cap,cur,rfl,Nat.le_trans hb h1,rest⟩
theorem Ry {w:World} {o:Own} {b:Nat} {v:Value} {l:List UInt8} (h:w.ownsRow b 5 1 v l.length (bvs l)) (ho:∀ k,v.ownBlock=some k→(o k).1=0):Bytes w o v l:=by
 rcases h.2 with ⟨rfl,h0⟩ | ⟨g,cap,cur,rfl,h1,h2,h3,h4,h5,h6⟩
 ·exact .inl ⟨⟨_,_,rfl⟩,h0,by rw [List.eq_nil_of_length_eq_zero h0];rfl⟩
 ·refine .inr ⟨g,0,cap,rfl,h3,h4,ho g rfl,lt_of_block h2, ?_⟩
  have:w.rangeAt g 0 ((cur.toList.drop 0).take l.length):=BU (w:=w) (b:=g) (cs:=cur.toList) (E:=5) (fr:=(0,0)) (by simpa using h2) 0 l.length
  rw [List.drop_zero] at this
  rw [Nat.mul_one] at h6
  rwa [h6] at this
theorem We {w:World} {o:Own} {L p pd:Nat} {m:Ad} (h:BZ w o L p pd m) :
  Calls prog 124 #[.pointer (some ⟨p,0,none⟩)] w fun e w'=>∃ v vs,e = .returned v∧Below w.heap.size w w'∧w'.ownsRow w.heap.size 29 1 v m.records.length vs∧Le w w' vs m.records:=by
 obtain ⟨g1,g2,g3,g4,g5,g6,g7⟩:=h.wf
 obtain ⟨rv,vs,⟨-, -, -, -, -, -,c6, -⟩, -,hro,hv, -, -⟩:=h.open
 obtain ⟨ra,rc,rfl⟩:=BA hro
 have wS:=h.lt
 obtain ⟨rs,hrs⟩:∃ rs,m.records=rs:=⟨_,rfl⟩
 rw [hrs] at hro hv g6 g7 ⊢
 rw [hrs] at c6
 clear hrs h
 have hn:rs.length ≤ 2000:=by omega
 have hcell:∀ k x,vs[k]?=some x→∃ g,ra=some ⟨g,0,none⟩∧w.cell? ⟨g,k,none⟩=some x∧g<w.heap.size:=by
  intro k x hx
  rcases hro.2 with ⟨_,h0⟩ | ⟨g,cap,cur,h1,h2,h3,h4,h5,h6,h7⟩
  ·have:=hv.1;have:=(List.getElem?_eq_some_iff.1 hx).1;omega
  ·simp only [Value.slice.injEq] at h1
   refine ⟨g,h1.1, ?_,lt_of_block h3⟩
   rw [cell_of_block (cs:=cur.toList) (E:=29) (fr:=(0,0)) (by simpa using h3)]
   rw [←h7,List.getElem?_take] at hx
   split at hx
   ·exact hx
   ·cases hx
 have hkl:∀ k,k<rs.length→∃ x l,vs[k]?=some x∧rs[k]?=some l∧l.length ≤ 960000:=fun k hk=>⟨_,_,List.getElem?_eq_getElem (by have:=hv.1;omega),List.getElem?_eq_getElem hk,g7 _ (List.getElem_mem hk)⟩
 have hvH:=hidden hv
 have hsn:∀ k l,rs[k]?=some l→rs.take (k+1)=rs.take k++[l]:=fun k l hl=>by rw [List.take_add_one,hl];rfl
 have uZ:=hidden hsn
 have pR:=hidden (List.take_length (l:=rs))
 clear hv hro hsn g1 g2 g3 g4 g5 g6 g7
 obtain ⟨n,hn2⟩:∃ n,rs.length=n:=⟨_,rfl⟩
 rw [hn2] at pR hkl c6 hn ⊢
 have Bfk:=hidden hn2
 clear hn2
 go_enter func124,ntmps124
 go_wp2_with fail
 go_loopw [3,13] (fun out i wr=>∃ k:Nat,∃ us,k ≤ n∧i = .int .i64 k∧wr.ownsRow w.heap.size 29 1 out k us∧Le w wr us (rs.take k)∧Below w.heap.size w wr) (fun _ i _=>n - (intOf i).toNat)
 case atStart=>exact ⟨0,[],Nat.zero_le _,rfl,World.ownsRow_nil _ _ _ _,⟨rfl,fun i v l hv _=>by simp at hv⟩,Below.refl _ _⟩
 case round =>
  obtain ⟨k,us,hk,rfl,hown,hrows,hbel⟩:=hrel
  by_cases hlt:k<n
  ·obtain ⟨x,l,hx,hl,hll⟩:=hkl k hlt
   obtain ⟨g,rfl,hc,hgl⟩:=hcell k x hx
   have hbx:=hvH.out.2 k x l hx hl
   obtain ⟨xa,xc,rfl⟩:=Aq hbx
   have hc2:wr.cell? ⟨g,k,none⟩=some (.slice xa l.length xc):=by rw [World.cell?_of_block (a:=⟨g,k,none⟩) (hbel.block g hgl)];exact hc
   have Ali:Step Nobody w o wr (fun k=>if k<w.heap.size then o k else (0,0)):=⟨hbel.os,hbel.tape,hbel.output,hbel.size,fun k hk=>if_pos hk,fun k hk _=>hbel.block k hk⟩
   have hcl:=clone_any (hbx.step Ali id) (by omega)
   obtain ⟨oa,oc,rfl⟩:=BA hown
   have hsize:=hbel.size
   have hs1:=uZ.out k l hl
   have qJ:=hidden hs1
   have Aqe:=hidden hrows
   have hownH:=hidden hown
   clear hbx hx hl hcell hkl hvH hs1 Ali hrows hown hc
   go_wp2_with fail
   refine hcl.mono ?_;rintro e w1 ⟨v1,o1,rfl,hst1,hn1⟩
   have hb1:Below wr.heap.size wr w1:=hst1.below
   obtain ⟨va,vc,rfl⟩:=BA hn1.1
   have hb1':Below w.heap.size w w1:=hbel.trans (hb1.mono hsize)
   have hsz1:=hb1.size
   have hb2:Below w1.heap.size w1 (w1.alloc (.cells #[.slice va l.length vc] 29)):=(Below.refl _ _).alloc (Nat.le_refl _) _
   have hnb:(w1.alloc (.cells #[.slice va l.length vc] 29)).heap[w1.heap.size]?=some (.cells #[.slice va l.length vc] 29 (0,0)):=heap_alloc_new w1 _
   have hown2:(w1.alloc (.cells #[.slice va l.length vc] 29)).ownsRow w.heap.size 29 1 (.slice oa k oc) k us:=by
    refine ⟨hownH.out.1, ?_⟩
    rcases hownH.out.2 with hnn | ⟨g',cap,cur,hv',h1,h2,rest⟩
    ·exact .inl hnn
    ·exact .inr ⟨g',cap,cur,hv',h1,by rw [hb2.block g' (by have:=lt_of_block h2;omega),hb1.block g' (lt_of_block h2)];exact h2,rest⟩
   obtain ⟨g2,cap2,w3,hrun,hown3,hgrow,hat,hlt3⟩:=FU (w1.alloc (.cells #[.slice va l.length vc] 29)) (base:=w.heap.size) (by simp;omega) _ _ _ hown2 w1.heap.size (.slice va l.length vc) rfl (AV (cs:=[.slice va l.length vc]) hnb) (by omega)
   have hb3:Below w.heap.size w w3:=(hb1'.trans (hb2.mono (by omega))).grown hgrow (by simp;omega) (fun k hk=>(hown2.lt k hk).1)
   have hrow3:Le w w3 (us++[.slice va l.length vc]) (rs.take (k+1)):=by
    rw [qJ.out]
    have AqK:∀ {v:Value} {l':List UInt8},(w1.alloc (.cells #[.slice va l.length vc] 29)).ownsRow w.heap.size 5 1 v l'.length (bvs l')→w3.ownsRow w.heap.size 5 1 v l'.length (bvs l'):=fun {v l'} h=>by
     refine ⟨h.1, ?_⟩
     rcases h.2 with hnn | ⟨g',cap,cur,hv',h1,h2,rest⟩
     ·exact .inl hnn
     ·refine .inr ⟨g',cap,cur,hv',h1, ?_,rest⟩
      rw [hgrow.block g' (lt_of_block h2)]
      ·exact h2
      ·intro hx
       rcases hown2.2 with ⟨h3,_⟩ | ⟨g3,cap3,Bgp,h3,_,h4,_⟩
       ·rw [h3] at hx;simp [Value.ownBlock] at hx
       ·rw [h3] at hx
        simp only [Value.ownBlock,Option.some.injEq] at hx
        subst hx
        rw [h4] at h2;cases h2
    have h1:=(Aqe.out.below hb1).below hb2
    have hl2:(w1.alloc (.cells #[.slice va l.length vc] 29)).ownsRow w.heap.size 5 1 (.slice va l.length vc) l.length (bvs l):=by
     refine ownsRow_base (b':=wr.heap.size) ?_ hsize
     refine ⟨hn1.1.1, ?_⟩
     rcases hn1.1.2 with hnn | ⟨g',cap,cur,hv',h1,h2,rest⟩
     ·exact .inl hnn
     ·exact .inr ⟨g',cap,cur,hv',h1,by rw [hb2.block g' (lt_of_block h2)];exact h2,rest⟩
    exact ⟨by simp [h1.1],fun i v' l' hv hl=>AqK ((h1.snoc hl2).2 i v' l' hv hl)⟩
   have Aax:=hidden hrun
   have Aqo:=hidden hown3
   have Aqf:=hidden hrow3
   clear hrun hown3 hrow3 hown2 hat hnb hcl hn1 hst1
   go_wp2_with ((with_reducible apply Bl);exact Aax.out;simp only [Act.put,GL,DL,lss])
   go_roundw
   case rel=>exact ⟨k+1,_,hlt,by go_num,Aqo.out,Aqf.out,hb3⟩
   case measure=>simp [intOf];omega
  ·obtain rfl:n=k:=by omega
   rw [pR.out] at hrows
   obtain ⟨oa,oc,rfl⟩:=BA hown
   go_wp2_with fail
   go_ret
   exact ⟨_,us,rfl,hbel,hown,hrows⟩

end Go.Proofs.YtffkdillijmamaaGreat
