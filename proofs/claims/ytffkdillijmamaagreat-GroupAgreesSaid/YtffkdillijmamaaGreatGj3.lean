/- Contracts: the steps of Commit and Reset but the third. -/
import Derived.RangeFuncNested
import Derived.RangeFuncBound
import Derived.RangeFuncCalls
import Derived.RangeFuncLeaves
import Derived.Shelf.Abstract
import Derived.Shelf.RegionOpen
import Derived.WalkKit
import Derived.OwnWalkIn
import Derived.TacticsInMore
import Derived.LoopNIn
import Derived.LoopIn
import Derived.OrdersIn
import Derived.Test.YtffkdillijmamaaGreatGj2
namespace Go.Proofs.YtffkdillijmamaaGreat
open Go.Proofs.Tryz
set_option maxRecDepth 100000
set_option maxHeartbeats 6400000
open Go Go.RowKit
attribute [local go_sem ↓] Go.wp_at_zero Go.wp_at_succ
def Box (w:World) (o:Own) (b:Nat) (t:TypeId) (v:Value):Prop:=w.heap[b]?=some (.cells #[v] t (0,0))/\(o b).1=0
theorem Box.step {T:Nat->Prop}{w w':World}{o o':Own}{b:Nat}{t:TypeId}{v:Value}(h:Box w o b t v) (s:aj T w o w' o') (q:¬ T 0):Box w' o' b t v:=
 ⟨by rw [s.block b (au h.1) (by rw [h.2];exact q)];exact h.1,by rw [s.own b (au h.1)];exact h.2⟩
theorem Box.cell {w:World}{o:Own}{b:Nat}{t:TypeId}{v:Value}(h:Box w o b t v):w.cell? ⟨b,0,none⟩=some v:=cell_of_one h.1
theorem Box.new (w:World) (o:Own) (t:TypeId) (v:Value):Box (w.alloc (.cells #[v] t)) (Ak o w.heap.size (0,0)) w.heap.size t v:=⟨heap_alloc_new w _,by rw [Au]⟩
section
variable {w:World}{o:Own}{L D p pd:Nat}{s:Ad × Af}
theorem Yk (h:LD w o L D p pd s) (b:List UInt8) (_a4:Ad.many b<=1000000000000) (u E:Nat) (F:Box w o u 3 (.int .i64 (Ad.many b:Int))) (hl:Box w o E 162 (.pointer (some ⟨p,0,none⟩))) :
  Calls prog 232 #[.pointer (some ⟨u,0,none⟩), .pointer (some ⟨E,0,none⟩)] w (XL (In L D) w o fun v w' o'=>v = .int .i64 (Ad.step1 b s).2/\LD w' o' L D p pd (Ad.step1 b s).1):=by
 obtain ⟨c0,c1,c2,c3,c4,c5,c7⟩:=h.1.held;obtain ⟨g1,g2,g3,g4,g5, -⟩:=h.1.wf;have J:=F.cell;have cl:=hl.cell;have O:aj (In L D) w o w.drew o:=(aj.refl _ w o).drew;have U:=h.step ((aj.refl ai w o).drew) id id id;have a2:((s.1.n:Int) - (s.1.end':Int))=((s.1.n - s.1.end':Nat):Int):=om
 have W:Ad.step1 b s=if s.1.n - s.1.end'<Ad.many b then (s,4) else (s,0):=rfl
 have r:=ae W;clear W c0 c1 c3 c4 c7 h F hl;generalize s.1.n=n at *;generalize s.1.end'=e at *;generalize Ad.many b=m at *;go_enter func232,ntmps232;go_wp2_with fail;refine Aa (fun w'=>w'.cell? ⟨p,2,none⟩=some (.int .i64 (n:Int))/\w'.cell? ⟨p,5,none⟩=some (.int .i64 (e:Int))/\w'.cell? ⟨u,0,none⟩=some (.int .i64 (m:Int))/\w'.cell? ⟨E,0,none⟩=some (.pointer (some ⟨p,0,none⟩))) (fun _=>true) (by kernel_rfl) ⟨c2,c5,J,cl⟩ (fun a3 => ?_);refine tq 0 (h:=tq 1 (h:=tq 2 (h:=tq 3 (h:=tq 4 (h:=tq 5 (h:=tq 6 (h:=tq 7 (h:=tq 8 (h:=tq 9 (h:=tq 10 (h:=tD (h:=?_))))))))))));rw [wrap_i64 (n:=((n - e:Nat):Int)) om om];clear a3 c2 c5 J cl a2
 by_cases Y:n - e<m
 ·rw [if_pos Y] at r;have q:decide (((n - e:Nat):Int)<(m:Int))=true:=by simp;omega
  rw [q];clear q;go_wp2_with fail;go_ret;rw [r.out];exact ⟨_,o,rfl,O,rfl,U⟩
 ·rw [if_neg Y] at r;have q:decide (((n - e:Nat):Int)<(m:Int))=false:=by simp;omega
  rw [q];clear q;go_wp2_with fail;go_ret;rw [r.out];exact ⟨_,o,rfl,O,rfl,U⟩
theorem Yj (W:L ≠ 0) (hD:D ≠ 0) (Y:L ≠ D) (h:LD w o L D p pd s) (a5:s.2.row.length<=900000) (bl:Nat) (hl:Box w o bl 162 (.pointer (some ⟨p,0,none⟩))) :
  Calls prog 233 #[.pointer (some ⟨bl,0,none⟩)] w (XL (In L D) w o fun v w' o'=>v = .int .i64 (Ad.step2 s).2/\LD w' o' L D p pd (Ad.step2 s).1):=by
 have hN:¬ In L D 0:=fun h=>by rcases h with h | h <;> omega
 obtain ⟨c0,c1,c2,c3,E,c5,c7⟩:=h.1.held;have cl:=hl.cell;have hE:Ad.step2 s=if s.1.Dx then (s,0) else (({ (Ad.head s).1.1 with Dx:=(Ad.head s).2 == 0 },(Ad.head s).1.2),(Ad.head s).2):=by unfold Ad.step2;rfl
 have q:=ae hE;have F:=VB W hD Y h a5;clear hE c0 c1 c2 c3 c5 c7
 cases J:s.1.Dx with
 | true =>
  rw [J] at E q;rw [if_pos rfl] at q;go_enter func233,ntmps233;go_wp2_with fail;go_ret;rw [q.out];exact ⟨_,o,rfl,aj.refl _ _ _,rfl,h⟩
 | false =>
  rw [J] at E q;rw [if_neg (by simp)] at q;obtain ⟨r,hr⟩:=az (Ad.head s);rw [hr] at q F;clear hr J;go_enter func233,ntmps233;go_wp2_with fail;refine F.mono ?_;rintro e w1 ⟨v1,o1,rfl,O,rfl,u⟩;have a6:=(hl.step O hN).cell;obtain ⟨rv,vs, -,hf, -⟩:=u.1.open;obtain ⟨-, -, -, -,d4, -⟩:=u.1.held;have f4:=hf 4;have a2:=u.1.set (m':={ r.1.1 with Dx:=r.2 == 0 }) W 4 (.bool (r.2 == 0)) (fun rv=>rfl) rfl u.1.wf;have U:=u.1.DC 4 (.bool (r.2 == 0));have a3:=u.2.step U (fun e=>Y e.symm);have a4:=O.trans U.yG;clear hf F O U u E cl;obtain ⟨⟨m1,d1⟩,e1⟩:=r;simp only at a2 a3 a4 q d4;go_wp2_with fail;go_ret;rw [q.out];exact ⟨_,o1,rfl,a4,rfl,a2,a3⟩
theorem WS (hL:L ≠ 0) (a4:L ≠ D) (h:LD w o L D p pd s) (u:Nat) (hl:Box w o u 162 (.pointer (some ⟨p,0,none⟩))) :
  Calls prog 240 #[.pointer (some ⟨u,0,none⟩)] w (XL (In L D) w o fun v w' o'=>v = .int .i64 (Ad.Hr s).2/\LD w' o' L D p pd (Ad.Hr s).1):=by
 obtain ⟨m,d⟩:=s;obtain ⟨q,J⟩:=h;simp only at q J;have U:=q.wf;have cl:=hl.cell;have a9:u ≠ p:=by rintro rfl;have h1:=hl.2;have h2:=q.wE;omega
 have b1:=q.lt;have O:Hid (BZ ((((w.drew.setCell ⟨p,4,none⟩ (.bool true)).setCell ⟨p,6,none⟩ (.slice none 0 0))).setCell ⟨p,5,none⟩ (.int .i64 1)) o L p pd (Ad.Hr (m,d)).1.1 /\
   aj (ak L) w o ((((w.drew.setCell ⟨p,4,none⟩ (.bool true)).setCell ⟨p,6,none⟩ (.slice none 0 0))).setCell ⟨p,5,none⟩ (.int .i64 1)) o):=by
  have h1:=q.set (m':={ m with Dx:=true }) hL 4 (.bool true) (fun W=>rfl) rfl U;have s1:=q.DC 4 (.bool true);have Y:aj ai w o w.drew o:=(aj.refl _ _ _).drew;have h0:=q.step Y id id;obtain ⟨W,vs,hp,hr,hv,E,wI,_⟩:=h0;have a5:aj (ak L) w.drew o ((((w.drew.setCell ⟨p,4,none⟩ (.bool true)).setCell ⟨p,6,none⟩ (.slice none 0 0))).setCell ⟨p,5,none⟩ (.int .i64 1)) o:=
   (((aj.refl (ak L) w.drew o).setCell (a:=⟨p,4,none⟩) _ (.inl (by show (o p).1=L;rw [E]))).setCell (a:=⟨p,6,none⟩) _ (.inl (by show (o p).1=L;rw [E]))).setCell (a:=⟨p,5,none⟩) _ (.inl (by show (o p).1=L;rw [E]))
  refine ⟨?_,(Y.only L).trans a5⟩;refine ⟨.slice none 0 0,[],Ai (i:=5) _ (Ai (i:=6) _ (Ai (i:=4) _ hp)),World.ownsRow_nil _ _ _ _,JG.nil _ _,E,fun k hk=>by simp [Value.ownBlock] at hk, ?_⟩;obtain ⟨g1,g2,g3,g4,g5,g6,g7⟩:=U;exact ⟨g1,g2,g3,by show 1<=1;omega,by show 1<=m.n;omega,by show 0+1<=1;omega,fun r hr=>by simp [Ad.Hr] at hr⟩
 have hE:Ad.Hr (m,d)=(({ m with Dx:=true,records:=[],end':=1 },d),0):=rfl;have a2:=ae hE;have uF:=fun x (hx:aj (ak L) w o x o)=>J.step hx (fun e=>a4 e.symm);have a6:=ae uF;obtain ⟨W,vs,⟨c0,c1,c2,c3,c4,c5,c6,c7⟩,F, -⟩:=q.open;have f4:=F 4;have f5:=F 5;have f6:=F 6;clear hE uF F c0 c1 c2 c3 c7 q J hl;go_enter func240,ntmps240;go_wp2_with fail;refine Aa (fun w'=>w'.cell? ⟨u,0,none⟩=some (.pointer (some ⟨p,0,none⟩))) (fun _=>true) (by kernel_rfl) cl (fun a3 => ?_);refine tq 0 (h:=tq 1 (h:=tq 2 (h:=tq 3 (h:=tq 4 (h:=?_)))));have k1:(w.drew.setCell ⟨p,4,none⟩ (.bool true)).cell? ⟨u,0,none⟩=some (.pointer (some ⟨p,0,none⟩)):=by rw [World.cell?_setCell_other _ _ _ _ (by simp)];exact a3
 have k2:((w.drew.setCell ⟨p,4,none⟩ (.bool true)).setCell ⟨p,6,none⟩ (.slice none 0 0)).cell? ⟨u,0,none⟩=some (.pointer (some ⟨p,0,none⟩)):=by rw [World.cell?_setCell_other _ _ _ _ (by simp)];exact k1
 have k3:(((w.drew.setCell ⟨p,4,none⟩ (.bool true)).setCell ⟨p,6,none⟩ (.slice none 0 0)).setCell ⟨p,5,none⟩ (.int .i64 1)).cell? ⟨u,0,none⟩=some (.pointer (some ⟨p,0,none⟩)):=by rw [World.cell?_setCell_other _ _ _ _ (by simp)];exact k2
 have K1:=ae k1;have K2:=ae k2;have K3:=ae k3;clear k1 k2 k3 a3 cl;refine tO 5 (h:=?_);go_wp2_with fail;refine ⟨fun _=>K1.out, ?_⟩;have a7:=K1.out;refine tq 6 (h:=tq 7 (h:=?_));clear a7;refine tO 8 (h:=?_);go_wp2_with fail;refine ⟨fun _=>K2.out, ?_⟩;have a8:=K2.out;refine tq 9 (h:=tq 10 (h:=?_));clear a8;refine tO 11 (h:=?_);go_wp2_with fail;refine ⟨fun _=>K3.out, ?_⟩;refine tD (h:=?_);clear c4 c5 c6 f4 f5 f6;go_wp2_with fail;go_ret;rw [a2.out];refine ⟨_,o,rfl,O.out.2.yG,rfl, ?_,a6.out _ O.out.2⟩;have h:=O.out.1;rw [a2.out] at h;exact h
end
namespace Ad
theorem Pv (X:BitVec 64) (k:Nat):∀ (l:List AA) (i:Nat),run X k i l=true ↔ ∀ j y,l[j]?=some y->y.stamp=X/\y.at'=i+j/\y.of'=k
 | [],i=>by simp [run]
 | x :: r,i=>by
  simp only [run,Bool.and_eq_true,beq_iff_eq,Pv X k r (i+1)]
  constructor
  ·rintro ⟨⟨⟨u,F⟩,E⟩,h4⟩ j y q
   cases j with
   | zero=>simp only [ay,Option.some.injEq] at q;subst q;exact ⟨u,om,E⟩
   | succ j=>obtain ⟨a,b,c⟩:=h4 j y (by simpa using q);exact ⟨a,om,c⟩
  ·intro h;obtain ⟨a,b,c⟩:=h 0 x rfl;refine ⟨⟨⟨a,om⟩,c⟩,fun j y q => ?_⟩;obtain ⟨a,b,c⟩:=h (j+1) y (by simpa using q);exact ⟨a,om,c⟩
theorem Kv {α:Type}(l:List α) (e k j:Nat):((l.drop e).take k)[j]?=if j<k then l[e+j]? else none:=by
 rw [List.getElem?_take];split <;> simp
theorem DW {leaves:List AA}{e:Nat}{last X:BitVec 64}{k:Nat}{b:List UInt8}(h:accept leaves e last=some (k,X,b)) :
  1<=k/\e+k<=leaves.length/\last.toNat<X.toNat/\(∀ i,i<k->∃ y,leaves[e+i]?=some y/\y.stamp=X/\y.at'=i/\y.of'=k)/\b=((leaves.drop e).take k).flatMap AA.bytes:=by
 unfold accept at h;split at h
 ·cases h
 ·rename_i x hx;split at h
  ·cases h
  ·rename_i hc;split at h
   ·rename_i hr;simp only [Option.some.injEq,Prod.mk.injEq] at h;obtain ⟨rfl,rfl,rfl⟩:=h;have u:e<leaves.length:=(List.getElem?_eq_some_iff.1 hx).1;refine ⟨om,om,om, ?_,rfl⟩;intro i r;have q:e+i<leaves.length:=om
    have:=(Pv _ _ _ 0).1 hr i leaves[e+i] (by rw [Kv,if_pos r,List.getElem?_eq_getElem q]);exact ⟨_,List.getElem?_eq_getElem q,this.1,om,this.2.2⟩
   ·cases h
theorem Hl {leaves:List AA}{e:Nat}{last X:BitVec 64}{k:Nat}(O:1<=k) (U:e+k<=leaves.length) (W:last.toNat<X.toNat)
  (h4:∀ i,i<k->∃ y,leaves[e+i]?=some y/\y.stamp=X/\y.at'=i/\y.of'=k):accept leaves e last=some (k,X,((leaves.drop e).take k).flatMap AA.bytes):=by
 obtain ⟨x,u,e1,e2,E⟩:=h4 0 om;rw [Nat.add_zero] at u;unfold accept;rw [u];simp only;rw [e1,E,if_neg om,if_pos];rw [Pv];intro j y q;rw [Kv] at q;split at q
 ·rename_i hj;obtain ⟨z,r,F,Y,J⟩:=h4 j hj;rw [q] at r;simp only [Option.some.injEq] at r;subst r;exact ⟨F,om,J⟩
 ·cases q
theorem Pm {α:Type}{l q:List α}{m:Nat}(h:q.take m=l.take m) {j:Nat}(r:j<m):q[j]?=l[j]?:=by
 have:=congrArg (·[j]?) h;simp only [List.getElem?_take,if_pos r] at this;exact this
theorem Yf {α:Type}{l q:List α}{m:Nat}(h:q.take m=l.take m) {e k:Nat}(r:e+k<=m):(q.drop e).take k=(l.drop e).take k:=by
 apply List.ext_getElem?;intro i;rw [Kv,Kv];split
 ·exact Pm h om
 ·rfl
theorem Ub {leaves q:List AA}{e m:Nat}{last X:BitVec 64}{k:Nat}{b:List UInt8}(h:accept leaves e last=some (k,X,b)) (r:q.take m=leaves.take m) (u:e+k<=m) (hl:m<=q.length) :
  accept q e last=some (k,X,b):=by
 obtain ⟨E,O,F,h4,rfl⟩:=DW h;rw [Hl E om F (fun i J=>by rw [Pm r om];exact h4 i J),Yf r u]
theorem Gq (leaves:List AA):∀ (f:Nat) (s:Nat × BitVec 64 × List (List UInt8)),s.1<=(Eb leaves f s).1/\(s.1<=leaves.length->(Eb leaves f s).1<=leaves.length)
 | 0,s=>⟨Nat.le_refl _,fun h=>h⟩
 | f+1,s=>by
  unfold Eb;cases h:accept leaves s.1 s.2.1 with
  | none=>exact ⟨Nat.le_refl _,fun h=>h⟩
  | some r =>
   obtain ⟨k,X,b⟩:=r;obtain ⟨u,q,_⟩:=DW h;have:=Gq leaves f (s.1+k,X,s.2.2++[b]);exact ⟨by have:=this.1;simp only at this ⊢;omega,fun _=>this.2 q⟩
theorem Rt (leaves:List AA):∀ (f:Nat) (s:Nat × BitVec 64 × List (List UInt8)),leaves.length - s.1<=f->accept leaves (Eb leaves f s).1 (Eb leaves f s).2.1=none
 | 0,s,hf=>by
  unfold Eb accept;rw [List.getElem?_eq_none om]
 | f+1,s,hf=>by
  unfold Eb;cases h:accept leaves s.1 s.2.1 with
  | none=>exact h
  | some r =>
   obtain ⟨k,X,b⟩:=r;obtain ⟨q,u,_⟩:=DW h;exact Rt leaves f _ (by simp only;omega)
theorem Gp {leaves:List AA}{s:Nat × BitVec 64 × List (List UInt8)}(h:accept leaves s.1 s.2.1=none):∀ f,Eb leaves f s=s
 | 0=>rfl
 | f+1=>by unfold Eb;rw [h]
theorem LC {leaves:List AA}{s:Nat × BitVec 64 × List (List UInt8)}{r:Nat × BitVec 64 × List UInt8}(h:accept leaves s.1 s.2.1=some r) (f:Nat) :
  Eb leaves (f+1) s=Eb leaves f (s.1+r.1,r.2.1,s.2.2++[r.2.2]):=by
 conv=>lhs;unfold Eb
 rw [h]
theorem MC (leaves u:List AA):∀ (f q:Nat) (s:Nat × BitVec 64 × List (List UInt8)),u.length - s.1<=q->u.take (Eb leaves f s).1=leaves.take (Eb leaves f s).1->(Eb leaves f s).1<=u.length ->
  ∃ E,u.length - (Eb leaves f s).1<=E/\Eb u q s=Eb u E (Eb leaves f s)
 | 0,q,s,h2,_,_=>⟨q,h2,rfl⟩
 | f+1,q,s,h2,ht,hl=>by
  cases h:accept leaves s.1 s.2.1 with
  | none=>rw [Gp h] at ht hl ⊢;exact ⟨q,h2,rfl⟩
  | some r =>
   obtain ⟨k,X,b⟩:=r;rw [LC h] at ht hl ⊢;obtain ⟨U,W,_⟩:=DW h;have F:=(Gq leaves f (s.1+k,X,s.2.2++[b])).1;simp only at F ht hl;have hc:=Ub h ht F hl
   cases q with
   | zero=>omega
   | succ q =>
    obtain ⟨E,J,O⟩:=MC leaves u f q (s.1+k,X,s.2.2++[b]) (by simp only;omega) ht hl;exact ⟨E,J,(LC hc q).trans O⟩
theorem Pz (leaves:List AA):∀ (f:Nat) (s:Nat × BitVec 64 × List (List UInt8)) (m:Nat),s.2.1.toNat<=m->(∀ y ∈ leaves,y.stamp.toNat<=m)->(Eb leaves f s).2.1.toNat<=m
 | 0,s,m,h,_=>h
 | f+1,s,m,h,hy=>by
  unfold Eb
  cases hc:accept leaves s.1 s.2.1 with
  | none=>exact h
  | some r =>
   obtain ⟨k,X,b⟩:=r;obtain ⟨E,F,_,h4,_⟩:=DW hc;refine Pz leaves f _ m ?_ hy;obtain ⟨y,q,u,_⟩:=h4 0 om;rw [<-u];exact hy y (List.mem_of_getElem? q)
theorem KZ {α:Type}(p:α->Bool):∀ (l:List α) (j:Nat),j<(l.takeWhile p).length->(l.takeWhile p)[j]?=l[j]?
 | [],j,h=>by simp at h
 | x :: r,j,h=>by
  rw [List.takeWhile_cons] at h ⊢;split at h
  ·rename_i hx;rw [if_pos hx]
   cases j with
   | zero=>rfl
   | succ j=>simp only [ax];exact KZ p r j (by simpa using h)
  ·simp at h
theorem FX {α:Type}(p:α->Bool):∀ (l:List α) (j:Nat),j<(l.takeWhile p).length ↔ ∀ i,i<=j->∃ x,l[i]?=some x/\p x=true
 | [],j=>by
  constructor
  ·intro h;simp at h
  ·intro h;obtain ⟨x,q,_⟩:=h 0 om;simp at q
 | x :: r,j=>by
  rw [List.takeWhile_cons];split
  ·rename_i q
   cases j with
   | zero =>
    constructor
    ·intro _ i u;obtain rfl:i=0:=om
     exact ⟨x,rfl,q⟩
    ·intro _;simp
   | succ j =>
    simp only [List.length_cons,Nat.add_lt_add_iff_right,FX p r j]
    constructor
    ·intro h i u
     cases i with
     | zero=>exact ⟨x,rfl,q⟩
     | succ i=>simpa using h i om
    ·intro h i u
     simpa using h (i+1) om
  ·rename_i q
   constructor
   ·intro h;simp at h
   ·intro h;obtain ⟨y,E,hp⟩:=h 0 om;simp only [ay,Option.some.injEq] at E;subst E;exact absurd hp q
theorem Ff (pages:List (List UInt8)) (j:Nat):j<(Ah pages).length ↔ ∀ i,i<=j->∃ p,pages[i]?=some p/\(CE p).2=true:=by
 unfold Ah;rw [List.length_map];exact FX _ _ _
theorem Gu {pages:List (List UInt8)}{j:Nat}{y:AA}(h:(Ah pages)[j]?=some y):∃ p,pages[j]?=some p/\(CE p).2=true/\y=(CE p).1:=by
 have q:j<(Ah pages).length:=(List.getElem?_eq_some_iff.1 h).1;obtain ⟨p,hp,r⟩:=(Ff pages j).1 q j (Nat.le_refl _);unfold Ah at h q;rw [List.length_map] at q;rw [List.getElem?_map,KZ _ _ _ q,hp] at h;simp only [Option.map_some,Option.some.injEq] at h;exact ⟨p,hp,r,h.symm⟩
theorem IQ {pages:List (List UInt8)}{j:Nat}{p:List UInt8}(r:j<(Ah pages).length) (hp:pages[j]?=some p):(Ah pages)[j]?=some (CE p).1:=by
 obtain ⟨q,hq,_,e⟩:=Gu (List.getElem?_eq_getElem r);rw [hp] at hq;simp only [Option.some.injEq] at hq;subst hq;rw [List.getElem?_eq_getElem r,e]
theorem TK {pages Aat:List (List UInt8)}{m:Nat}(h:∀ j,j<m->Aat[j]?=pages[j]?) (q:m<=(Ah pages).length) :
  m<=(Ah Aat).length/\(Ah Aat).take m=(Ah pages).take m:=by
 have r:m<=(Ah Aat).length:=by
  cases m with
  | zero=>omega
  | succ m =>
   have:=(Ff pages m).1 q;have:m<(Ah Aat).length:=(Ff Aat m).2 fun i u=>by rw [h i om];exact this i u
   exact this
 refine ⟨r,List.ext_getElem? fun j => ?_⟩;rw [List.getElem?_take,List.getElem?_take];split
 ·rename_i hj;obtain ⟨p,hp,_⟩:=(Ff pages j).1 om j (Nat.le_refl _);rw [IQ om hp,IQ om (by rw [h j hj];exact hp)]
 ·rfl
theorem Jc (a b:BitVec 64):(KX a b).toNat=max a.toNat b.toNat:=by unfold KX;split <;> omega
theorem TA (pages:List (List UInt8)):∀ s:BitVec 64,(pages.foldl (fun s p=>KX (KX s (num (p.take 8))) (num (p.drop 504))) s).toNat=pages.foldl (fun s p=>max (max s (num (p.take 8)).toNat) (num (p.drop 504)).toNat) s.toNat:=by
 induction pages with
 | nil=>intro s;rfl
 | cons p r q=>intro s;simp only [List.foldl_cons];rw [q,Jc,Jc]
theorem Aen {pages:List (List UInt8)}{m:Nat}:(newest pages).toNat<=m ↔ ∀ p ∈ pages,(num (p.take 8)).toNat<=m/\(num (p.drop 504)).toNat<=m:=by
 unfold newest;rw [TA];have:∀ (pages:List (List UInt8)) (s:Nat),pages.foldl (fun s p=>max (max s (num (p.take 8)).toNat) (num (p.drop 504)).toNat) s<=m ↔ s<=m/\∀ p ∈ pages,(num (p.take 8)).toNat<=m/\(num (p.drop 504)).toNat<=m:=by
  intro pages
  induction pages with
  | nil=>intro s;simp
  | cons p r q =>
   intro s;simp only [List.foldl_cons,q,List.mem_cons,forall_eq_or_imp]
   constructor
   ·rintro ⟨a,b⟩;exact ⟨om,⟨om,om⟩,b⟩
   ·rintro ⟨a,⟨b,c⟩,d⟩;exact ⟨om,d⟩
 rw [this]
 constructor
 ·exact fun h=>h.2
 ·exact fun h=>⟨by simp,h⟩
theorem Fe {pages:List (List UInt8)}{p:List UInt8}(h:p ∈ pages):(num (p.take 8)).toNat<=(newest pages).toNat/\(num (p.drop 504)).toNat<=(newest pages).toNat:=
 Aen.1 (Nat.le_refl _) p h
theorem Il {p:List UInt8}(h:(CE p).2=true):(CE p).1.stamp=num (p.take 8):=by
 rw [(Lp h).1];rfl
theorem XM {pages:List (List UInt8)}{y:AA}(h:y ∈ Ah pages):y.stamp.toNat<=(newest pages).toNat:=by
 obtain ⟨j,q⟩:=List.mem_iff_getElem?.1 h;obtain ⟨p,hp,r,rfl⟩:=Gu q;rw [Il r];exact (Fe (List.mem_of_getElem? hp)).1
theorem TS (pages:List (List UInt8)):(AaJ (Ah pages)).toNat<=(newest pages).toNat:=by
 cases h:Ah pages with
 | nil=>simp [AaJ]
 | cons x r=>exact XM (y:=x) (by rw [h];simp)
theorem CX (b:List UInt8) (i:Nat):(part b i).length<=480:=by simp only [part,List.length_take];omega
theorem PI (b:List UInt8):∀ k:Nat,(List.range k).flatMap (part b)=b.take (480*k)
 | 0=>by simp
 | k+1=>by
  rw [List.range_succ,List.flatMap_append,PI b k];simp only [List.flatMap_cons,List.flatMap_nil,List.append_nil,part];rw [show 480*(k+1)=480*k+480 from by omega,List.take_add]
theorem parts_all (b:List UInt8):(List.range (many b)).flatMap (part b)=b:=by
 rw [PI,List.take_of_length_le];unfold many;omega
theorem Ko (b:List UInt8):1<=many b:=by unfold many;omega
theorem PW {ls:List AA}(h:Di ls=true):1<=ls.length:=by cases ls with
 | nil=>cases h
 | cons x r=>simp
theorem Vx {ls q:List AA}{m:Nat}(h:q.take m=ls.take m) (u:1<=m):Di q=Di ls/\AaJ q=AaJ ls:=by
 have:=Pm h (j:=0) om
 cases ls with
 | nil=>cases q with
  | nil=>exact ⟨rfl,rfl⟩
  | cons y r=>simp at this
 | cons x s=>cases q with
  | nil=>simp at this
  | cons y r =>
   simp only [ay,Option.some.injEq] at this;subst this;exact ⟨rfl,rfl⟩
theorem Oj {pages Aat:List (List UInt8)}{S:BitVec 64}{b:List UInt8}(hh:Di (Ah pages)=true) (hS:(newest pages).toNat<S.toNat) (hk:many b<65536)
  (W:∀ j,(j<(readAll (Ah pages)).1 \/ (readAll (Ah pages)).1+many b<=j)->Aat[j]?=pages[j]?)
  (a5:∀ i,i<many b->∃ U,Aat[(readAll (Ah pages)).1+i]?=some U/\(pages[(readAll (Ah pages)).1+i]?=some U \/ U=AA.page ⟨S,i,many b,part b i⟩ \/ (CE U).2=false)) :
  Di (Ah Aat)=true /\
  ((readAll (Ah Aat)=readAll (Ah pages)/\¬ ∀ i,i<many b->Aat[(readAll (Ah pages)).1+i]?=some (AA.page ⟨S,i,many b,part b i⟩)) \/
   ((readAll (Ah Aat)).1=(readAll (Ah pages)).1+many b/\(readAll (Ah Aat)).2.2=(readAll (Ah pages)).2.2++[b])):=by
 have b8:=PW hh;have a6:=(Gq (Ah pages) (Ah pages).length (1,AaJ (Ah pages),[])).2 b8;have a7:=(Gq (Ah pages) (Ah pages).length (1,AaJ (Ah pages),[])).1;have a8:=Rt (Ah pages) (Ah pages).length (1,AaJ (Ah pages),[]) (by simp only;omega);have b3:=Pz (Ah pages) (Ah pages).length (1,AaJ (Ah pages),[]) (newest pages).toNat (TS pages) (fun y E=>XM E)
 change (readAll (Ah pages)).1<=_ at a6
 change 1<=(readAll (Ah pages)).1 at a7
 change accept _ (readAll (Ah pages)).1 (readAll (Ah pages)).2.1=none at a8
 change (readAll (Ah pages)).2.1.toNat<=_ at b3
 obtain ⟨⟨e,last,rs⟩,hq⟩:∃ q,readAll (Ah pages)=q:=⟨_,rfl⟩;rw [hq] at W a5 a6 a7 a8 b3 ⊢;simp only at W a5 a6 a7 a8 b3 ⊢;obtain ⟨a1,a2⟩:=TK (pages:=pages) (Aat:=Aat) (m:=e) (fun j Y=>W j (.inl Y)) a6;obtain ⟨b1,b2⟩:=Vx a2 a7;refine ⟨b1.trans hh, ?_⟩;have b9:=MC (Ah pages) (Ah Aat) (Ah pages).length (Ah Aat).length (1,AaJ (Ah pages),[]) (by simp only;omega)
  (by change (Ah Aat).take (readAll (Ah pages)).1=(Ah pages).take (readAll (Ah pages)).1;rw [hq];exact a2) (by change (readAll (Ah pages)).1<=_;rw [hq];exact a1)
 obtain ⟨f3,g1,g2⟩:=b9
 change _ - (readAll (Ah pages)).1<=f3 at g1
 change _=Eb (Ah Aat) f3 (readAll (Ah pages)) at g2
 rw [hq] at g1 g2;rw [<-b2] at g2
 change readAll (Ah Aat)=_ at g2
 rw [g2];simp only at g1;have c0:=Ko b;have b6:∀ j y,(Ah Aat)[j]?=some y->y.stamp=S->e<=j/\j<e+many b/\y=⟨S,j - e,many b,part b (j - e)⟩:=by
  intro j y E a3;obtain ⟨p,hp,F,rfl⟩:=Gu E;have hold:pages[j]?=some p->False:=fun h=>by
   have:=(Fe (List.mem_of_getElem? h)).1;rw [Il F] at a3;rw [a3] at this;omega
  by_cases Y:e<=j/\j<e+many b
  ·obtain ⟨U,O,u⟩:=a5 (j - e) om;rw [show e+(j - e)=j from by omega] at O u;rw [hp] at O;simp only [Option.some.injEq] at O;subst O
   rcases u with u | u | u
   ·exact (hold u).elim
   ·refine ⟨Y.1,Y.2, ?_⟩;have h0:S ≠ 0#64:=by rintro rfl;simp at hS
    rw [u,AA.Hq ⟨h0,by show j - e<65536;omega,hk,CX _ _⟩]
   ·rw [u] at F;cases F
  ·exact (hold (by rw [<-W j om];exact hp)).elim
 have b7:∀ (j:Nat) (y:AA),(Ah Aat)[j]?=some y->y.stamp ≠ S->∃ p:List UInt8,pages[j]?=some p/\Aat[j]?=some p/\(CE p).2=true/\y=(CE p).1:=by
  intro j y E a3;obtain ⟨p,hp,F,rfl⟩:=Gu E
  by_cases Y:e<=j/\j<e+many b
  ·obtain ⟨U,O,u⟩:=a5 (j - e) om;rw [show e+(j - e)=j from by omega] at O u;rw [hp] at O;simp only [Option.some.injEq] at O;subst O
   rcases u with u | u | u
   ·exact ⟨_,u,hp,F,rfl⟩
   ·have h0:S ≠ 0#64:=by rintro rfl;simp at hS
    rw [u,AA.Hq ⟨h0,by show j - e<65536;omega,hk,CX _ _⟩] at a3;exact (a3 rfl).elim
   ·rw [u] at F;cases F
  ·exact ⟨p,by rw [<-W j om];exact hp,hp,F,rfl⟩
 cases a9:accept (Ah Aat) e last with
 | none =>
  left
  rw [Gp (s:=(e,last,rs)) a9];refine ⟨rfl,fun a4 => ?_⟩;have b4:e+many b<=(Ah Aat).length:=by
   have:e+many b - 1<(Ah Aat).length:=(Ff _ _).2 fun i J=>by
    by_cases c6:i<e
    ·exact (Ff Aat i).1 om i (Nat.le_refl _)
    ·refine ⟨_,(by have:=a4 (i - e) om;rwa [show e+(i - e)=i from by omega] at this), ?_⟩;have h0:S ≠ 0#64:=by rintro rfl;simp at hS
     rw [AA.Hq ⟨h0,by show i - e<65536;omega,hk,CX _ _⟩]
   omega
  have:=Hl (leaves:=Ah Aat) (e:=e) (last:=last) (X:=S) (k:=many b) c0 b4 om fun i J=>by
   have h0:S ≠ 0#64:=by rintro rfl;simp at hS
   have E:=IQ (pages:=Aat) (j:=e+i) om (a4 i J);rw [AA.Hq ⟨h0,by show i<65536;omega,hk,CX _ _⟩] at E;exact ⟨_,E,rfl,rfl,rfl⟩
  rw [a9] at this;cases this
 | some r =>
  obtain ⟨k,X,c⟩:=r;obtain ⟨c1,c2,c3,c4,c5⟩:=DW a9
  by_cases hX:X=S
  ·subst hX
   right
   obtain ⟨y,E,y1,y2,y3⟩:=c4 0 om;obtain ⟨_,_,c7⟩:=b6 _ y E y1;have c8:k=many b:=by rw [<-y3,c7]
   subst c8;have hc:c=b:=by
    rw [c5];have:(List.take (many b) (List.drop e (Ah Aat)))=(List.range (many b)).map fun i=>(⟨X,i,many b,part b i⟩:AA):=by
     apply List.ext_getElem?;intro i;rw [Kv,List.getElem?_map];split
     ·rename_i J;obtain ⟨z,hz,z1,_⟩:=c4 i J;obtain ⟨_,_,c9⟩:=b6 _ z hz z1;rw [hz,c9,List.getElem?_range J];simp
     ·rename_i J;rw [List.getElem?_eq_none (by simp;omega)];rfl
    rw [this,List.flatMap_map];exact parts_all b
   subst hc;have d5:accept (Ah Aat) (e+many c) X=none:=by
    cases d6:accept (Ah Aat) (e+many c) X with
    | none=>rfl
    | some r2 =>
     obtain ⟨k2,X2,d2⟩:=r2;obtain ⟨d1,_,d3,d4,_⟩:=DW d6;obtain ⟨z,hz,z1,_⟩:=d4 0 om;rw [Nat.add_zero] at hz;have d7:z.stamp ≠ X:=by rw [z1];rintro rfl;omega
     obtain ⟨p,hp,_,F,rfl⟩:=b7 _ z hz d7;have:=(Fe (List.mem_of_getElem? hp)).1;rw [Il F] at z1;rw [z1] at this;omega
   cases f3 with
   | zero=>omega
   | succ f3 =>
    unfold Eb;rw [a9];simp only;rw [Gp (s:=(e+many c,X,rs++[c])) d5];exact ⟨rfl,rfl⟩
  ·-- an elder record was there already
   exfalso
   have a4:∀ i,i<k->∃ p:List UInt8,pages[e+i]?=some p/\(CE p).2=true/\∃ y,(Ah Aat)[e+i]?=some y/\y=(CE p).1:=by
    intro i J;obtain ⟨y,E,y1,_⟩:=c4 i J;obtain ⟨p,hp,_,F,e1⟩:=b7 _ y E (by rw [y1];exact hX);exact ⟨p,hp,F,y,E,e1⟩
   have b4:e+k<=(Ah pages).length:=by
    have:e+k - 1<(Ah pages).length:=(Ff _ _).2 fun i J=>by
     by_cases c6:i<e
     ·exact (Ff pages i).1 om i (Nat.le_refl _)
     ·obtain ⟨p,hp,F,_⟩:=a4 (i - e) om;rw [show e+(i - e)=i from by omega] at hp;exact ⟨p,hp,F⟩
    omega
   have:=Hl (leaves:=Ah pages) (e:=e) (last:=last) (X:=X) (k:=k) c1 b4 c3 fun i J=>by
    obtain ⟨p,hp,F,y,E,d8⟩:=a4 i J;obtain ⟨y',b5,q⟩:=c4 i J;rw [E] at b5;simp only [Option.some.injEq] at b5;subst b5;exact ⟨y,by rw [IQ om hp,d8],q⟩
   rw [a8] at this;cases this
theorem MB {pages Aat:List (List UInt8)}{S:BitVec 64}(Y:(newest pages).toNat<S.toNat) (J:∀ j,1<=j->Aat[j]?=pages[j]?)
  (a2:Aat[0]?=pages[0]? \/ Aat[0]?=some (AA.page ⟨S,0,0,[]⟩) \/ ∃ p,Aat[0]?=some p/\(CE p).2=false) :
  (Aat[0]?=some (AA.page ⟨S,0,0,[]⟩)->Di (Ah Aat)=true/\readAll (Ah Aat)=(1,S,[])) /\
  (Aat[0]? ≠ some (AA.page ⟨S,0,0,[]⟩)->Ah Aat=Ah pages \/ Ah Aat=[]):=by
 constructor
 ·intro h0;have a3:S ≠ 0#64:=by rintro rfl;simp at Y
  have O:=AA.Hq (x:=⟨S,0,0,[]⟩) ⟨a3,by show (0:Nat)<65536;omega,by show (0:Nat)<65536;omega,by simp⟩;have hl:0<(Ah Aat).length:=(Ff _ _).2 fun i hi=>by
   obtain rfl:i=0:=om
   exact ⟨_,h0,by rw [O]⟩
  have u:=IQ hl h0;rw [O] at u;simp only at u;obtain ⟨x,r,E⟩:∃ x r,Ah Aat=x :: r:=by
   cases h:Ah Aat with
   | nil=>rw [h] at hl;simp at hl
   | cons x r=>exact ⟨x,r,rfl⟩
  rw [E] at u;simp only [ay,Option.some.injEq] at u;have a4:accept (Ah Aat) 1 S=none:=by
   cases a5:accept (Ah Aat) 1 S with
   | none=>rfl
   | some r2 =>
    obtain ⟨k2,X2,d2⟩:=r2;obtain ⟨d1,_,d3,d4,_⟩:=DW a5;obtain ⟨z,U,W,_⟩:=d4 0 om;rw [Nat.add_zero] at U;obtain ⟨p,hp,F,rfl⟩:=Gu U;rw [J 1 om] at hp;have:=(Fe (List.mem_of_getElem? hp)).1;rw [Il F] at W;rw [W] at this;omega
  have a6:AaJ (Ah Aat)=S:=by rw [E];subst u;rfl
  refine ⟨by rw [E];subst u;rfl, ?_⟩;unfold readAll;rw [a6,Gp (s:=(1,S,[])) a4]
 ·intro h0
  rcases a2 with h | h | ⟨p,hp,F⟩
  ·left
   have:Aat=pages:=List.ext_getElem? fun j=>by
    cases j with
    | zero=>exact h
    | succ j=>exact J _ om
   rw [this]
  ·exact (h0 h).elim
  ·right
   cases hq:Aat with
   | nil=>rfl
   | cons q r =>
    rw [hq] at hp;simp only [ay,Option.some.injEq] at hp;subst hp;unfold Ah;rw [List.takeWhile_cons,if_neg (by rw [F];simp)];rfl
end Ad
section
variable {P:Program}{ops:Array Oper}{Q:Exit->Act->World->Prop}{md:Region.Mode}{N:Nat->World->Prop}
def Iz (P:Program) (md:Region.Mode) (ops:Array Oper) (Q:Exit->Act->World->Prop) (N:Nat->World->Prop):Nat->Array Bool->Act->World->Prop
 | 0,listed,a,w=>Region.ready md ops listed=[]/\Q .normal a w
 | fuel+1,listed,a,w =>
  (Region.ready md ops listed=[]->Q .normal a w) /\
  ∀ i ∈ Region.ready md ops listed,wpOp P ops Q i (fun a' w'=>(w'=w \/ N i w')/\Iz P md ops Q N fuel (listed.setIfInBounds i true) a' w') a w
theorem Pg:∀ (fuel:Nat) (q:Array Bool) (a:Act) (w:World),Iz P md ops Q N fuel q a w->wpAny P md ops Q fuel q a w
 | 0,_,_,_,h=>h
 | fuel+1,_,_,_,h=>⟨h.1,fun i r=>wpOp_mono (fun u w' E=>Pg fuel _ u w' E.2) (h.2 i r)⟩
theorem Sm {i:Nat}{E:Oper}{v:Value}(hi:ops[i]?=some E) (a2:∀ (j:Nat) (o:Oper) cs b,ops[j]?=some o->o.op ≠ .select cs b)
  (hQ:∀ c a w,Q (.panic c) (a.put E.dst v) w->Q (.panic c) a w) {St:World->Prop} (hN:∀ (j:Nat) (w:World),JF md ops j i=false->N j w->St w) :
  ∀ (fuel:Nat) (q:Array Bool) (a:Act) (w:World),
   (∀ j r,ops[j]?=some r->j ≠ i->q.getD j true=false->(∀ e ∈ r.after,Region.binds md e=true->e.on ≠ i)->E.apart ops r=true) ->
   i ∈ Region.ready md ops q->YieldsIf P ops St E v a->St w ->
   Iz P md ops Q N fuel (q.setIfInBounds i true) (a.put E.dst v) w->Iz P md ops Q N (fuel+1) q a w:=by
 intro fuel
 induction fuel with
 | zero =>
  intro q a w _ F O U H;refine ⟨fun h=>(by rw [h] at F;cases F),fun j W => ?_⟩
  by_cases u:j=i
  ·subst u;exact O.wpOp hi U ⟨.inl rfl,H⟩
  ·have:=ready_mono W u;rw [H.1] at this
   cases this
 | succ fuel ih =>
  intro q a w a3 F O U H;refine ⟨fun h=>(by rw [h] at F;cases F),fun j W => ?_⟩
  by_cases u:j=i
  ·subst u;exact O.wpOp hi U ⟨.inl rfl,H⟩
  ·have J:=H.2 j (ready_mono W u);obtain ⟨a4,r,Y,a8⟩:=mem_ready.1 W;have a5:∀ e ∈ r.after,Region.binds md e=true->e.on ≠ i:=fun e he hb a9=>by
    have J:=a8 e he hb;have h0:=(mem_ready.1 F).1;rw [a9] at J
    rcases Nat.lt_or_ge i q.size with h' | h'
    ·simp [h'] at h0 J;rw [h0] at J;cases J
    ·simp [Array.getElem?_eq_none h'] at J
   have rX:JF md ops j i=false:=by
    unfold JF;simp only [Y]
    cases hq:(r.after.any fun e=>Region.binds md e && e.on == i)
    ·rfl
    ·obtain ⟨e,he,hb⟩:=Array.any_eq_true'.1 hq;simp only [Bool.and_eq_true,beq_iff_eq] at hb;exact absurd hb.2 (a5 e he hb.1)
   have h2:=wpOp_putIf Y (a3 j r Y u a4 a5) (fun cs b=>a2 i E cs b hi) (fun cs b=>a2 j r cs b Y) hQ O J;have b1:∀ k ok,ops[k]?=some ok->k ≠ i->(q.setIfInBounds j true).getD k true=false ->
     (∀ e ∈ ok.after,Region.binds md e=true->e.on ≠ i)->E.apart ops ok=true:=fun k ok hk b2 a6 b3=>by
    refine a3 k ok hk b2 ?_ b3
    by_cases a7:j=k
    ·subst a7;exact a4
    ·rw [getD_set_ne true a7] at a6;exact a6
   refine wpOp_mono (fun a' w' h3=>⟨h3.2.1,ih (q.setIfInBounds j true) a' w' b1 (ready_mono F (Ne.symm u)) h3.1 (by rcases h3.2.1 with rfl | h4;exact U;exact hN j w' rX h4) ?_⟩) h2
   rw [Array.setIfInBounds_comm _ _ u];exact h3.2.2
theorem Nh {i lo hi:Nat}(h:((List.range hi).all fun j=>decide (j<lo) || JF md ops j i)=true) (j:Nat) (q:JF md ops j i=false):j<lo \/ hi<=j:=by
 by_cases r:j<hi
 ·have:=List.all_eq_true.1 h j (List.mem_range.2 r);simp only [q,Bool.or_false,decide_eq_true_eq] at this;exact .inl this
 ·exact .inr om
theorem AO {St:World->Prop}{i:Nat}{r:Oper}{v:Value}{fuel:Nat}{q:Array Bool}{a:Act}{w:World}(hi:(ops.toList.drop i).head?=some r)
  (u:Region.noSelect ops=true) (E:Region.free md ops q i=true) (F:(Region.ready md ops q).contains i=true)
  (hN:∀ (j:Nat) (w:World),JF md ops j i=false->N j w->St w)
  (hQ:∀ c a w,Q (.panic c) (a.put r.dst v) w->Q (.panic c) a w) (hy:YieldsIf P ops St r v a) (J:St w)
  (h:Iz P md ops Q N fuel (q.setIfInBounds i true) (a.put r.dst v) w):Iz P md ops Q N (fuel+1) q a w:=
 Sm (EX hi) (Region.noSelect_spec u) hQ hN fuel q a w (Region.free_spec (EX hi) E) (by simpa using F) hy J h
theorem tG (i:Nat) {St:World->Prop}{q:Oper}{v:Value}{fuel:Nat}{r u:Array Bool}{a E:Act}{w:World}
  (hi:(ops.toList.drop i).head?=some q:=by rfl)
  (hN:∀ (j:Nat) (w:World),JF md ops j i=false->N j w->St w:=by exact fun _ _ _ h=>h.1)
  (F:St w:=by first | assumption | exact ⟨by assumption,by assumption⟩)
  (hc:(Region.noSelect ops && Region.free md ops r i && (Region.ready md ops r).contains i)=true:=by kernel_rfl)
  (J:Region.wanted q (yielded ops a.tmps)=true:=by rfl)
  (hy:∀ w,St w->(execOp a.eval q).run P w = .ok (.value v) w:=by intro w hSw;(try dsimp only at hSw);go_simp;(try with_reducible rfl))
  (hQ:∀ c a w,Q (.panic c) (a.put q.dst v) w->Q (.panic c) a w:=by exact fun _ _ _ h=>h)
  (O:a.put q.dst v=E:=by (try simp only [Act.put,GL,DL,lss]);exact rfl)
  (hl:r.setIfInBounds i true=u:=by (try simp only [GL,DL,lss]);exact rfl)
  (h:Iz P md ops Q N fuel u E w):Iz P md ops Q N (fuel+1) r a w:=by
 subst O hl;simp only [Bool.and_eq_true] at hc;exact AO hi hc.1.1 hc.1.2 hc.2 hN hQ (.inl ⟨J,hy⟩) F h
theorem tT (i:Nat) {q:Oper}{v:Value}{fuel:Nat}{r u:Array Bool}{a E:Act}{w:World}
  (hi:(ops.toList.drop i).head?=some q:=by rfl)
  (hc:(Region.noSelect ops && Region.free md ops r i && (Region.ready md ops r).contains i)=true:=by kernel_rfl)
  (F:Region.wanted q (yielded ops a.tmps)=true:=by rfl)
  (hy:∀ w,True->(execOp a.eval q).run P w = .ok (.value v) w:=by intro w hSw;go_simp;(try with_reducible rfl))
  (hQ:∀ c a w,Q (.panic c) (a.put q.dst v) w->Q (.panic c) a w:=by exact fun _ _ _ h=>h)
  (J:a.put q.dst v=E:=by (try simp only [Act.put,GL,DL,lss]);exact rfl)
  (hl:r.setIfInBounds i true=u:=by (try simp only [GL,DL,lss]);exact rfl)
  (h:Iz P md ops Q N fuel u E w):Iz P md ops Q N (fuel+1) r a w:=
 tG i hi (fun _ _ _ _=>trivial) trivial hc F hy hQ J hl h
theorem BX {i:Nat}{u:Oper}{fuel:Nat}{q:Array Bool}{a:Act}{w:World}(hi:(ops.toList.drop i).head?=some u) (E:Region.ready md ops q=[i])
  (h:wpList P ops (Exit.then (fun a' w'=>(w'=w \/ N i w')/\Iz P md ops Q N fuel (q.setIfInBounds i true) a' w') Q) [u] a w):Iz P md ops Q N (fuel+1) q a w:=by
 refine ⟨fun h0=>(by rw [E] at h0;cases h0),fun j r => ?_⟩;rw [E] at r;simp only [List.mem_singleton] at r;subst r;exact LY (EX hi) h
theorem JI {q:Array Bool}{a:Act}{w:World}(r:Region.ready md ops q=[]) (h:Q .normal a w):∀ fuel,Iz P md ops Q N fuel q a w
 | 0=>⟨r,h⟩
 | _+1=>⟨fun _=>h,by rw [r];simp⟩
theorem JH {id:Nat}{a:Act}{w:World}(N:Nat->World->Prop) (q:P.follows .mixedOrders=true)
  (h:Iz P .any ops Q N ops.size (Array.replicate ops.size false) a w.drew):(Code.region id ops true).wp P Q a w:=
 wp_region_any q (Pg _ _ _ _ h)
end
theorem Atb:(prog.info? 29).map (fun i=>(i.zero.map (fun z=>z.cells.toList),i.size,i.bytes))=some (some [.slice none 0 0],1,24):=by kernel_rfl
theorem Ey.snoc {w:World}{o:Own}{vs:List Value}{ls:List (List UInt8)}{v:Value}{l:List UInt8}(h:Ey w o vs ls) (hb:Bytes w o v l):Ey w o (vs++[v]) (ls++[l]):=by
 refine ⟨by simp [h.1],fun i u E hv hl => ?_⟩
 by_cases q:i<vs.length
 ·rw [List.getElem?_append_left q] at hv;rw [List.getElem?_append_left (by rw [<-h.1];exact q)] at hl;exact h.2 i u E hv hl
 ·rw [List.getElem?_append_right om] at hv;rw [List.getElem?_append_right (by rw [<-h.1];omega), <-h.1] at hl
  cases r:i - vs.length with
  | zero=>rw [r] at hv hl;simp at hv hl;subst hv;subst hl;exact hb
  | succ j=>rw [r] at hv;simp at hv
theorem JG.snoc {w:World}{o:Own}{vs:List Value}{ls:List (List UInt8)}{v:Value}{l:List UInt8}(h:JG w o vs ls) (hb:Bytes w o v l) (r:Mine w o v):JG w o (vs++[v]) (ls++[l]):=
 ⟨h.1.snoc hb,fun x q=>by
  rcases List.mem_append.1 q with q | q
  ·exact h.2 x q
  ·simp only [List.mem_singleton] at q;subst q;exact r⟩
def Nb (W:World) (o:Own):Own:=fun k=>if k<W.heap.size then o k else (0,1)
theorem Xl {T:Nat->Prop}{w w':World}{o o':Own}{v:Value}{l:List UInt8}(q:aj T w o w' o') (h:Ew w w' o' v l):∃ o2,aj T w o w' o2/\Bytes w' o2 v l/\Mine w' o2 v:=by
 refine ⟨Nb w o,⟨q.os,q.tape,q.output,q.size,fun k r=>if_pos r,q.block⟩, ?_,fun b off n c e hn => ?_⟩
 ·rcases h.bytes with h0 | ⟨b,off,cap,e,u,E,J,h4,F⟩
  ·exact .inl h0
  ·refine .inr ⟨b,off,cap,e,u,E, ?_,h4,F⟩;have:=h.1.lt b (by rw [e];rfl);unfold Nb;rw [if_neg om]
 ·have:=h.1.lt b (by rw [e];rfl);exact ⟨this.2,by unfold Nb;rw [if_neg om]⟩
theorem FU (W:World) {base:Nat}(r:base<=W.heap.size) (v:Value) (n:Nat) (xs:List Value) (E:W.ownsRow base 29 1 v n xs) (b:Nat) (x:Value) (F:x.oneCell'=true) (J:W.rangeAt b 0 [x]) (hn:n<=1000000) :
  ∃ g cap w',(Builtin.append_ #[181,181] 181 #[v, .slice (some ⟨b,0,none⟩) 1 1]).run prog W = .ok (.slice (some ⟨g,0,none⟩) (n+1) cap) w' /\
   w'.ownsRow base 29 1 (.slice (some ⟨g,0,none⟩) (n+1) cap) (n+1) (xs++[x])/\W.grownBy w' v.ownBlock/\(v.ownBlock=some g \/ g=W.heap.size)/\g<w'.heap.size:=
 DD (P:=prog) W 181 181 29 underlying181 Atb rfl om r v n xs E b 0 1 1 [x] rfl J (by intro u q;simp at q;subst q;exact F) om om om
section
variable {w:World}{o:Own}{L D p pd:Nat}{s:Ad × Af}
theorem Yh (hL:L ≠ 0) (c3:L ≠ D) (h:LD w o L D p pd s) (b:List UInt8) (bv:Value) (hb:Bytes w o bv b) (c4:Ad.many b<=s.1.n - s.1.end') (rF:b.length<=960000) (E bb F:Nat) (hl:Box w o E 162 (.pointer (some ⟨p,0,none⟩))) (a7:Box w o bb 29 bv) (hm:Box w o F 3 (.int .i64 (Ad.many b:Int))) :
  Calls prog 239 #[.pointer (some ⟨E,0,none⟩), .pointer (some ⟨bb,0,none⟩), .pointer (some ⟨F,0,none⟩)] w (XL (In L D) w o fun v w' o'=>v = .int .i64 (Ad.step4 b s).2/\LD w' o' L D p pd (Ad.step4 b s).1):=by
 obtain ⟨m,d⟩:=s;obtain ⟨Y,b3⟩:=h;simp only at Y b3 c4;have h7:=Y.wf;obtain ⟨g1,g2,g3,g4,g5,g6,g7⟩:=Y.wf;have f0:=Ad.Ko b;have cl:=hl.cell;have cb:=a7.cell;have cm:=hm.cell;have tl:(o E).1 ≠ L:=by rw [hl.2];exact fun e=>hL e.symm
 have tb:(o bb).1 ≠ L:=by rw [a7.2];exact fun e=>hL e.symm
 have tm:(o F).1 ≠ L:=by rw [hm.2];exact fun e=>hL e.symm
 have h8:E ≠ p:=by rintro rfl;have h1:=hl.2;have h2:=Y.wE;omega
 have h9:bb ≠ p:=by rintro rfl;have h1:=a7.2;have h2:=Y.wE;omega
 have i0:F ≠ p:=by rintro rfl;have h1:=hm.2;have h2:=Y.wE;omega
 obtain ⟨k,q⟩:=az (Ad.many b);have hE:Ad.step4 b (m,d)=(({ m with records:=m.records++[b],end':=m.end'+k },d),0):=by unfold Ad.step4;rw [q]
 have f1:=ae hE;rw [q] at c4 f0 hm cm;have a8:aj ai w o w.drew o:=(aj.refl _ _ _).drew;have f2:=Y.step a8 id id;have c7:=b3.step a8 id;have f3:=hb.step a8 id;have c8:=clone_any f3 om;obtain ⟨rv,vs,hp,b4,hv,op,wI, -⟩:=f2;have c9:(m.end':Int)+(k:Int)=((m.end'+k:Nat):Int):=om
 have c5:w.drew.cell? ⟨p,5,none⟩=some (.int .i64 (m.end':Int)):=ag hp 5;have c6:w.drew.cell? ⟨p,6,none⟩=some rv:=ag hp 6;obtain ⟨ra,rc,f4⟩:=BA b4;have f7:=Aq hb;obtain ⟨ba,bc,rfl⟩:=f7;have wP:=ae b4;have d1:=ae hp;have f8:=ae hv;subst f4;have f9:=ae op;have i1:=ae q;clear hE hl a7 hm Y b3 hb b4 hp hv op q;have i2:(m.end':Int)<=2000:=om
 have i3:(k:Int)<=2000:=om
 have yF:IntKind.i64.wrap ((m.end':Int)+(k:Int))=((m.end'+k:Nat):Int):=by rw [wrap_i64 om om];omega
 have i4:=ae c9;have yE:=ae yF;clear c9 yF;go_enter func239,ntmps239;go_wp2_with fail;have a2:(w.drew.cell? ⟨E,0,none⟩=some (.pointer (some ⟨p,0,none⟩))/\w.drew.cell? ⟨bb,0,none⟩=some (.slice ba b.length bc)/\w.drew.cell? ⟨F,0,none⟩=some (.int .i64 (k:Int))):=⟨cl,cb,cm⟩;have g0:(w.drew.cell? ⟨p,5,none⟩=some (.int .i64 (m.end':Int))/\w.drew.cell? ⟨p,6,none⟩=some (.slice ra m.records.length rc)):=⟨c5,c6⟩;refine JH (fun i w'=>(w'.cell? ⟨E,0,none⟩=some (.pointer (some ⟨p,0,none⟩))/\w'.cell? ⟨bb,0,none⟩=some (.slice ba b.length bc)/\w'.cell? ⟨F,0,none⟩=some (.int .i64 (k:Int)))/\(i<18 \/ 22<=i->(w'.cell? ⟨p,5,none⟩=some (.int .i64 (m.end':Int))/\w'.cell? ⟨p,6,none⟩=some (.slice ra m.records.length rc)))) (by kernel_rfl) ?_;refine tG 0 (h:=?_);refine tG 1 (h:=?_);refine tG 2 (h:=?_);refine tT 3 (h:=tT 4 (h:=?_));refine tG 5 (hN:=by exact fun j w hd h=>aI h.1 (h.2 (Nh (lo:=18) (hi:=22) (by kernel_rfl) j hd))) (h:=?_);refine tG 6 (h:=?_);refine tG 10 (h:=?_);refine tT 11 (h:=tT 12 (h:=?_));refine tG 13 (hN:=by exact fun j w hd h=>aI h.1 (h.2 (Nh (lo:=18) (hi:=22) (by kernel_rfl) j hd))) (h:=?_);refine tG 14 (h:=?_);refine tT 15 (h:=?_);refine BX (i:=7) rfl (by kernel_rfl) ?_;rw [yE.out];go_wp2_with fail;refine c8.mono ?_;rintro e O ⟨v1,i5,rfl,d3,d4⟩;obtain ⟨o1,a9,b5,zU⟩:=Xl d3 d4;clear d3 d4;obtain ⟨va,vc,rfl⟩:=Aq b5;have i6:=World.block_lt_of_cell? _ _ a2.1;have b6:p<w.drew.heap.size:=au d1.out;have keep:∀ (x y:World) (ox oy:Own),aj ai x ox y oy->w.drew.heap.size<=x.heap.size->((x.cell? ⟨E,0,none⟩=some (.pointer (some ⟨p,0,none⟩))/\x.cell? ⟨bb,0,none⟩=some (.slice ba b.length bc)/\x.cell? ⟨F,0,none⟩=some (.int .i64 (k:Int)))/\(x.cell? ⟨p,5,none⟩=some (.int .i64 (m.end':Int))/\x.cell? ⟨p,6,none⟩=some (.slice ra m.records.length rc)))->((y.cell? ⟨E,0,none⟩=some (.pointer (some ⟨p,0,none⟩))/\y.cell? ⟨bb,0,none⟩=some (.slice ba b.length bc)/\y.cell? ⟨F,0,none⟩=some (.int .i64 (k:Int)))/\(y.cell? ⟨p,5,none⟩=some (.int .i64 (m.end':Int))/\y.cell? ⟨p,6,none⟩=some (.slice ra m.records.length rc))):=fun x y ox oy hs b1 h=>by
  have e1:=hs.block E (Nat.lt_of_lt_of_le (World.block_lt_of_cell? _ _ a2.1) b1) id;have e2:=hs.block bb (Nat.lt_of_lt_of_le (World.block_lt_of_cell? _ _ a2.2.1) b1) id;have e3:=hs.block F (Nat.lt_of_lt_of_le (World.block_lt_of_cell? _ _ a2.2.2) b1) id;have e4:=hs.block p (Nat.lt_of_lt_of_le b6 b1) id;exact ⟨⟨(World.cell?_of_block (a:=⟨E,0,none⟩) e1).trans h.1.1,(World.cell?_of_block (a:=⟨bb,0,none⟩) e2).trans h.1.2.1,(World.cell?_of_block (a:=⟨F,0,none⟩) e3).trans h.1.2.2⟩,
   (World.cell?_of_block (a:=⟨p,5,none⟩) e4).trans h.2.1,(World.cell?_of_block (a:=⟨p,6,none⟩) e4).trans h.2.2⟩
 have vN:=keep _ _ _ _ a9 (Nat.le_refl _) ⟨a2,g0⟩;go_wp2_with fail;refine ⟨.inr ⟨vN.1,fun _=>vN.2⟩, ?_⟩;have g8:=a9.size;have rH:aj ai O o1 _ _:=(aj.refl _ O o1).alloc (.cells #[.slice va b.length vc] 29) (0,0);have rG:=keep _ _ _ _ rH g8 vN;have b7:(O.alloc (.cells #[.slice va b.length vc] 29)).heap[O.heap.size]?=some (.cells #[.slice va b.length vc] 29 (0,0)):=heap_alloc_new O _;refine BX (i:=8) rfl (by kernel_rfl) ?_;go_wp2_with fail;refine ⟨.inr ⟨rG.1,fun _=>rG.2⟩, ?_⟩;have U:=a9.trans rH;have d5:=Ci wP.out (fun k q=>U.block k (wP.out.lt k q).2 id);have yL:=f8.out.step U id;have d6:=b5.step rH id;have zT:=zU.step rH;have uF:=c7.step U id;have b8:=(U.block p b6 id).trans d1.out;have b9:=(U.own p b6).trans f9.out;have tX:∀ k,(Value.slice ra m.records.length rc).ownBlock=some k->Ak o1 O.heap.size (0,0) k=(L,1):=fun k q=>(U.own k (wP.out.lt k q).2).trans (wI k q);have d7:=a8.trans U;generalize g9:O.alloc (.cells #[.slice va b.length vc] 29)=W at *;generalize Ak o1 O.heap.size (0,0)=J at *;obtain ⟨g,cap,u,d8,d9,c0,a4,i7⟩:=FU W (Nat.zero_le _) _ _ _ d5 O.heap.size (.slice va b.length vc) rfl (AV (cs:=[.slice va b.length vc]) b7) om;have i8:O.heap.size<W.heap.size:=au b7;have e0:J g=(L,1) \/ W.heap.size<=g:=by
  rcases a4 with a4 | a4
  ·exact .inl (tX g a4)
  ·exact .inr om
 have a5:aj (ak L) W J u (Ak J g (L,1)):=(aj.refl (ak L) W J).grown c0 (fun k q => .inl (by rw [tX k q];rfl)) g (L,1) e0;have yZ:p<W.heap.size:=au b8;have xX:p ≠ g:=by
  rintro rfl
  rcases e0 with h1 | h1
  ·rw [b9] at h1;simp at h1
  ·omega
 have a6:u.heap[p]?=some (.cells (m.cells pd (.slice ra m.records.length rc)).toArray 233 (0,0)):=by
  rw [c0.block p yZ (by intro hx;have:=tX p hx.symm;rw [b9] at this;simp at this)];exact b8
 have e5:¬ ak L 0:=fun h=>hL h.symm;have yK:=(yL.snoc d6 zT).step a5 e5;have e6:=uF.step a5 (fun e=>c3 e.symm);have nL:∀ k,k<W.heap.size->¬ ak L (J k).1->u.heap[k]?=W.heap[k]?:=fun k q ht=>a5.block k q ht;have uU:∀ k,k<w.drew.heap.size->(o k).1 ≠ L->¬ ak L (J k).1:=fun k q h hx=>h (by rw [<-U.own k q];exact hx);have wJ:w.drew.heap.size<=W.heap.size:=U.size;have kl:=World.block_lt_of_cell? _ _ a2.1;have kb:=World.block_lt_of_cell? _ _ a2.2.1;have km:=World.block_lt_of_cell? _ _ a2.2.2;have kp:u.heap[p]?=W.heap[p]?:=a6.trans b8.symm;have a3:(u.cell? ⟨E,0,none⟩=some (.pointer (some ⟨p,0,none⟩))/\u.cell? ⟨bb,0,none⟩=some (.slice ba b.length bc)/\u.cell? ⟨F,0,none⟩=some (.int .i64 (k:Int)))/\(u.cell? ⟨p,5,none⟩=some (.int .i64 (m.end':Int))/\u.cell? ⟨p,6,none⟩=some (.slice ra m.records.length rc)):=⟨⟨(World.cell?_of_block (a:=⟨E,0,none⟩) (nL E (Nat.lt_of_lt_of_le kl wJ) (uU E kl tl))).trans rG.1.1,(World.cell?_of_block (a:=⟨bb,0,none⟩) (nL bb (Nat.lt_of_lt_of_le kb wJ) (uU bb kb tb))).trans rG.1.2.1,(World.cell?_of_block (a:=⟨F,0,none⟩) (nL F (Nat.lt_of_lt_of_le km wJ) (uU F km tm))).trans rG.1.2.2⟩,
   (World.cell?_of_block (a:=⟨p,5,none⟩) kp).trans rG.2.1,(World.cell?_of_block (a:=⟨p,6,none⟩) kp).trans rG.2.2⟩
 have h3:=ae d8;clear d8 a4 d5 yL d6 uF rG vN c8 b5 zU zT keep b7 g9;refine BX (i:=9) rfl (by kernel_rfl) ?_;refine Bl h3.out ?_;refine wpList_nil ?_;refine ⟨.inr ⟨a3.1,fun _=>a3.2⟩, ?_⟩;simp only [Act.put,GL,DL,lss];have q5:=a3.2.1;have q6:=a3.2.2;have f5:=Ap a6 5;have f6:=Ap a6 6;have K4:((u.setCell ⟨p,6,none⟩ (.slice (some ⟨g,0,none⟩) (m.records.length+1) cap)).cell? ⟨E,0,none⟩=some (.pointer (some ⟨p,0,none⟩))/\(u.setCell ⟨p,6,none⟩ (.slice (some ⟨g,0,none⟩) (m.records.length+1) cap)).cell? ⟨bb,0,none⟩=some (.slice ba b.length bc)/\(u.setCell ⟨p,6,none⟩ (.slice (some ⟨g,0,none⟩) (m.records.length+1) cap)).cell? ⟨F,0,none⟩=some (.int .i64 (k:Int))):=⟨by rw [World.cell?_setCell_other _ _ _ _ (by simp)];exact a3.1.1,by rw [World.cell?_setCell_other _ _ _ _ (by simp)];exact a3.1.2.1,by rw [World.cell?_setCell_other _ _ _ _ (by simp)];exact a3.1.2.2⟩;have K5:(((u.setCell ⟨p,6,none⟩ (.slice (some ⟨g,0,none⟩) (m.records.length+1) cap)).setCell ⟨p,5,none⟩ (.int .i64 ((m.end'+k:Nat):Int))).cell? ⟨E,0,none⟩=some (.pointer (some ⟨p,0,none⟩))/\((u.setCell ⟨p,6,none⟩ (.slice (some ⟨g,0,none⟩) (m.records.length+1) cap)).setCell ⟨p,5,none⟩ (.int .i64 ((m.end'+k:Nat):Int))).cell? ⟨bb,0,none⟩=some (.slice ba b.length bc)/\((u.setCell ⟨p,6,none⟩ (.slice (some ⟨g,0,none⟩) (m.records.length+1) cap)).setCell ⟨p,5,none⟩ (.int .i64 ((m.end'+k:Nat):Int))).cell? ⟨F,0,none⟩=some (.int .i64 (k:Int))):=⟨by rw [World.cell?_setCell_other _ _ _ _ (by simp)];exact K4.1,by rw [World.cell?_setCell_other _ _ _ _ (by simp)];exact K4.2.1,by rw [World.cell?_setCell_other _ _ _ _ (by simp)];exact K4.2.2⟩;have e7:({ m with records:=m.records++[b],end':=m.end'+k }:Ad).wf:=by
  refine ⟨g1,g2,g3,by show 1<=m.end'+k;omega,by show m.end'+k<=m.n;omega,by show (m.records++[b]).length+1<=m.end'+k;simp only [List.length_append,List.length_cons,List.length_nil];omega, ?_⟩;intro r hr
  rcases List.mem_append.1 hr with hr | hr
  ·exact g7 r hr
  ·simp only [List.mem_singleton] at hr;subst hr;exact rF
 have b2:Ak J g (L,1) p=(L,0):=by rw [BI _ _ xX];exact b9
 have vF:aj (ak L) u (Ak J g (L,1)) ((u.setCell ⟨p,6,none⟩ (.slice (some ⟨g,0,none⟩) (m.records.length+1) cap)).setCell ⟨p,5,none⟩ (.int .i64 ((m.end'+k:Nat):Int))) (Ak J g (L,1)):=
  ((aj.refl (ak L) u (Ak J g (L,1))).setCell (a:=⟨p,6,none⟩) _ (.inl (by show (Ak J g (L,1) p).1=L;rw [b2]))).setCell (a:=⟨p,5,none⟩) _ (.inl (by show (Ak J g (L,1) p).1=L;rw [b2]))
 have zW:BZ ((u.setCell ⟨p,6,none⟩ (.slice (some ⟨g,0,none⟩) (m.records.length+1) cap)).setCell ⟨p,5,none⟩ (.int .i64 ((m.end'+k:Nat):Int))) (Ak J g (L,1)) L p pd { m with records:=m.records++[b],end':=m.end'+k }:=by
  refine ⟨.slice (some ⟨g,0,none⟩) (m.records.length+1) cap,vs++[.slice va b.length vc],Ai (i:=5) _ (Ai (i:=6) _ a6), ?_,yK.step vF e5,b2, ?_,e7⟩
  ·have:(m.records++[b]).length=m.records.length+1:=by simp
   show World.ownsRow _ 0 29 1 _ (m.records++[b]).length _;rw [this];refine Ci d9 fun k q => ?_;simp only [Value.ownBlock,Option.some.injEq] at q;subst q;rw [Below.heap_setCell _ _ _ _ (Ne.symm xX),Below.heap_setCell _ _ _ _ (Ne.symm xX)]
  ·intro k q;simp only [Value.ownBlock,Option.some.injEq] at q;subst q;exact Au _ _ _
 have e8:aj (In L D) w o _ _:=(((d7.only L).trans a5).trans vF).yG;have e9:=e6.step vF (fun e=>c3 e.symm);have xY:=ae (show _/\_/\_ from ⟨e8,zW,e9⟩);have h5:=ae K4;have h6:=ae K5;clear K4 K5 e8 zW e9 vF b2 e7 yK e6 a6 kp a3 a5 d7 U rH a9 d9 c0 nL uU c7;refine BX (i:=16) rfl (by kernel_rfl) ?_;go_wp2_with fail
 (first | refine ⟨.inl trivial, ?_⟩ | refine ⟨.inl rfl, ?_⟩ | skip)
 refine BX (i:=17) rfl (by kernel_rfl) ?_;go_wp2_with fail
 (first | refine ⟨.inl trivial, ?_⟩ | refine ⟨.inl rfl, ?_⟩ | skip)
 refine BX (i:=18) rfl (by kernel_rfl) ?_;go_wp2_with fail;refine ⟨.inr ⟨h5.out,fun h=>by rcases h with h | h <;> omega⟩, ?_⟩
 refine BX (i:=19) rfl (by kernel_rfl) ?_;go_wp2_with fail
 (first | refine ⟨.inl trivial, ?_⟩ | refine ⟨.inl rfl, ?_⟩ | skip)
 refine BX (i:=20) rfl (by kernel_rfl) ?_;go_wp2_with fail
 (first | refine ⟨.inl trivial, ?_⟩ | refine ⟨.inl rfl, ?_⟩ | skip)
 refine BX (i:=21) rfl (by kernel_rfl) ?_;go_wp2_with fail;refine ⟨.inr ⟨h6.out,fun h=>by rcases h with h | h <;> omega⟩, ?_⟩
 refine JI (by kernel_rfl) ?_ _;clear q5 q6 f5 f6;go_wp2_with fail;go_ret;rw [f1.out];exact ⟨_,_,rfl,xY.out.1,rfl,xY.out.2.1,xY.out.2.2⟩
end
open Go Go.RowKit Go.Shelf
attribute [local go_sem] Oper.semAt_some
section
variable {P:Program}{ops:Array Oper}{Q:Exit->Act->World->Prop}{md:Region.Mode}{n l:Nat}
theorem UG {row:String}{args:Array Value}{w:World}{R:Value->World->Prop}(h:Rows P row args w R):RowsIn (Fence.wide.inRound l) n P row args w R:=
 fun c q _=>let ⟨v,w',r,s⟩:=h c q;⟨v,w',r,stepsIn_wide.2 s⟩
theorem cO (F:∀ (o:Oper) (c:Call),o ∈ ops->o.op ≠ .defer c) (J:¬ LetsOut Q) {i:Nat}{K:Act->World->Prop}{a:Act}{w:World}(h:wpOp P ops Q i K a w):wpOpIn (Fence.wide.inRound l) n P ops Q i K a w:=by
 unfold wpOp at h;unfold wpOpIn
 cases q:ops[i]? with
 | none=>simpa [q] using h
 | some o =>
  simp only [q] at h ⊢;split
  ·rename_i hw;rw [if_pos hw] at h
   rcases h with h | ⟨_,hl⟩
   ·refine ⟨fun _ _=>trivial, ?_⟩;have O:Oper.semAt (Fence.wide.inRound l).round a.eval o=execOp a.eval o:=Oper.semAt_some l a.eval o (fun c=>F o c (Array.mem_of_getElem? q));rw [O];unfold Oper.wp at h;generalize (execOp a.eval o).run P w=r at *
    cases r with
    | ok x w' =>
     cases x <;> simp only [Oper.upon,Oper.uponIn] at h ⊢
     case value u=>exact h
     case skip=>exact h
     case defer d=>exact h
     case enter f args=>exact ⟨fun E=>by simp [Fence.wide,Fence.inRound] at E,CallsIn.inRound l (callsIn_wide.2 h)⟩
     case row row args=>exact ⟨fun E=>by simp [Fence.wide,Fence.inRound] at E,UG h⟩
    | halt x w' =>
     cases x <;> simp only [Oper.upon,Oper.uponIn] at h ⊢
     case panic u=>exact h
   ·exact absurd hl J
  ·rename_i hw;rw [if_neg hw] at h;exact ⟨fun _ _=>trivial,h⟩
theorem Um (q:∀ (o:Oper) (c:Call),o ∈ ops->o.op ≠ .defer c) (r:¬ LetsOut Q):∀ (fuel:Nat) (u:Array Bool) (a:Act) (w:World),wpAny P md ops Q fuel u a w->wpAnyIn (Fence.wide.inRound l) n P md ops Q fuel u a w
 | 0,_,_,_,h=>h
 | fuel+1,_listed,_a,_w,h=>⟨h.1,fun i E=>cO q r (wpOp_mono (fun F w' J=>Um q r fuel _ F w' J) (h.2 i E))⟩
def XH (ops:Array Oper):Bool:=ops.all fun o=>match o.op with | .defer _=>false | _=>true
theorem Tz (h:XH ops=true) (o:Oper) (c:Call) (q:o ∈ ops):o.op ≠ .defer c:=by
 intro r;have:=Array.all_eq_true_iff_forall_mem.1 h o q;simp [r] at this
theorem OI {id:Nat}{a:Act}{w:World}(S:World->Prop) (need:Nat->Bool) (q:P.follows .mixedOrders=true) (r:XH ops=true) (u:¬ LetsOut Q) (E:S w.drew)
  (h:S w.drew->Dq P .any ops Q S need ops.size (Array.replicate ops.size false) a w.drew):(Code.region id ops true).wpIn (Fence.wide.inRound l) n P Q a w:=
 wpIn_region_any q (Um (Tz r) u _ _ _ _ (Iy _ _ _ _ (h E)))
end
def JV (v:Value) (k:Nat):Value:=match v with
 | .slice a len cap=>if k=0 then .slice a (min len 480) cap else match a with
  | some x => .slice (some ⟨x.block,x.off+k*480,none⟩) (min len ((k+1)*480) - k*480) (cap - k*480)
  | none=>undef
 | _=>undef
theorem AiL {w:World}{o:Own}{v:Value}{l:List UInt8}(h:Bytes w o v l) (k:Nat) (q:k<Ad.many l):Bytes w o (JV v k) (Ad.part l k):=by
 have r:k=0 \/ 480*k<l.length:=by unfold Ad.many at q;omega
 unfold Ad.part
 rcases h.cases with ⟨⟨a,c,rfl⟩,rfl⟩ | ⟨b,off,cap,rfl,u,E,F,hb,J⟩
 ·have:k=0:=by simp at r;omega
  subst this;exact .inl ⟨⟨_,_,by simp [JV];exact ⟨rfl,rfl⟩⟩,by simp,by simp⟩
 ·by_cases h0:k=0
  ·subst h0;have:=h.part 0 (min l.length 480) om om;simp only [Nat.add_zero,Nat.sub_zero,List.drop_zero] at this;simp only [JV,if_true,Nat.mul_zero,List.drop_zero];have e:l.take 480=l.take (min l.length 480):=by
    by_cases hl:l.length<=480
    ·rw [Nat.min_eq_left hl,List.take_length,List.take_of_length_le hl]
    ·rw [Nat.min_eq_right om]
   rw [e];exact this
  ·have:=h.part (480*k) (min l.length (480*(k+1))) om om;simp only [JV,if_neg h0];rw [Nat.mul_comm k 480,Nat.mul_comm (k+1) 480];have e:(l.drop (480*k)).take 480=(l.drop (480*k)).take (min l.length (480*(k+1)) - 480*k):=by
    by_cases hl:l.length<=480*(k+1)
    ·rw [Nat.min_eq_left hl,List.take_of_length_le (by simp;omega),List.take_of_length_le (by simp)]
    ·rw [Nat.min_eq_right om];congr 1;omega
   rw [e];exact this
theorem eH (w:World) (a:Option Addr) (n c:Nat):Calls prog 236 #[.slice a n c] w fun e w'=>e = .returned (.func (.func 255) #[] #[.pointer (some ⟨w.heap.size,0,none⟩)])/\w'=w.alloc (.cells #[.slice a n c] 29):=by
 go_enter func236,ntmps236
 go_wp2
 go_ret;exact ⟨rfl,rfl⟩
theorem eP (n:Nat) (hn:1<=n) (l bx:Nat) (a:Option Addr) (len cap:Nat) (hsome:480<len->∃ b off,a=some ⟨b,off,none⟩) (hcap:len<=cap) (hlen:cap<=9223372036854775807) (hlen2:len<=1000000000) (many:Nat) (Aex:many=max 1 ((len+479) / 480)) (J Jx:List (Fin many)->World->Prop)
  (hY:∀ (pre:List (Fin many)) (x:Fin many) (W:World),J pre W->pre.length<many->YieldAt Fence.wide (n - 1) prog l #[.int .i64 (x.val:Int),JV (.slice a len cap) x.val] W fun e W' =>
   (e = .returned (.bool true)/\J (pre++[x]) W'/\W'.heap[bx]?=W.heap[bx]?) \/ (e = .returned (.bool false)/\Jx (pre++[x]) W'))
  (W:World) (hBs:W.heap[bx]?=some (.cells #[.slice a len cap] 29 (0,0))) (h0:J [] W) :
  CallsIn Fence.wide n prog 255 #[.func (.yield l) #[] #[], .pointer (some ⟨bx,0,none⟩)] W fun e W'=>(∃ v,e = .returned v) /\
   ((∃ ys,ys.map (·.val)=List.range many/\J ys W') \/ (∃ pre,(∃ k,k<=many/\1<=k/\pre.map (·.val)=List.range k)/\Jx pre W')):=by
 refine callsIn_of_wp func255 rfl trivial ?_ rfl;simp only [ntmps255,List.size_toArray,List.length_cons,List.length_nil,Nat.reduceAdd,Nat.reduceSub,Array.replicate_succ,Array.replicate_zero,List.push_toArray,List.append_toArray,List.nil_append,List.cons_append];have qL:=ae Aex;clear Aex
 gi_wp2
 gi_loopw [3] (fun i wr=>∃ k:Nat,k<=many/\i = .int .i64 k/\(∃ pre:List (Fin many),pre.map (·.val)=List.range k/\J pre wr)/\wr.heap[bx]?=some (.cells #[.slice a len cap] 29 (0,0)))
  (fun i _=>many - (intOf i).toNat)
 case atStart=>exact ⟨0,Nat.zero_le _,rfl,⟨[],rfl,h0⟩,hBs⟩
 case round =>
  clear hBs h0;obtain ⟨k,hk,rfl,⟨pre,E,F⟩,u⟩:=hrel;have qW:pre.length=k:=by have:=congrArg List.length E;simpa using this
  have oU:=ae E;have zA:=ae qW;clear E qW;have cb:wr.cell? ⟨bx,0,none⟩=some (.slice a len cap):=cell_of_one u
  by_cases hk0:k=0
  ·subst hk0;have hlt:0<many:=by have:=qL.out;omega
   obtain ⟨fn,O,assign,U,q,hR⟩:=hY _ ⟨0,hlt⟩ wr F (by rw [zA.out];exact hlt);have hpv:JV (.slice a len cap) 0 = .slice a (min len 480) cap:=by simp [JV]
   dsimp only at q;have e0:((0:Nat):Int)=0:=rfl;rw [hpv,e0] at q;clear e0 hpv hY
   by_cases xU:len<=480
   ·rw [Nat.min_eq_left xU] at q;have wF:(len:Int)<=480:=om
    gi_wp2
    refine hR.mono ?_;rintro e W3 (⟨rfl,hJ3,r⟩ | ⟨rfl,hJx3⟩)
    ·gi_wp2
     go_roundw
     case rel=>exact ⟨0+1,hlt,by go_num,⟨_,by rw [List.range_succ,List.map_append,oU.out];rfl,hJ3⟩,r.trans u⟩
     case measure=>simp [intOf];omega
    ·gi_wp2
     refine bodyPost_ret (results_none rfl _ _ _) rfl ?_;exact ⟨⟨_,rfl⟩, .inr ⟨_,⟨0+1,hlt,om,by rw [List.range_succ,List.map_append,oU.out];rfl⟩,hJx3⟩⟩
   ·rw [Nat.min_eq_right om] at q;have wF:¬ (len:Int)<=480:=om
    have icap:(480:Int)<=(cap:Int):=om
    gi_wp2
    refine hR.mono ?_;rintro e W3 (⟨rfl,hJ3,r⟩ | ⟨rfl,hJx3⟩)
    ·gi_wp2
     go_roundw
     case rel=>exact ⟨0+1,hlt,by go_num,⟨_,by rw [List.range_succ,List.map_append,oU.out];rfl,hJ3⟩,r.trans u⟩
     case measure=>simp [intOf];omega
    ·gi_wp2
     refine bodyPost_ret (results_none rfl _ _ _) rfl ?_;exact ⟨⟨_,rfl⟩, .inr ⟨_,⟨0+1,hlt,om,by rw [List.range_succ,List.map_append,oU.out];rfl⟩,hJx3⟩⟩
  ·have hki:((k:Int) == 0)=false:=by rw [beq_eq_false_iff_ne];omega
   by_cases hlt:k<many
   ·have Y:480*k<len:=by have:=qL.out;omega
    have a2:(k:Int)*480<(len:Int):=om
    obtain ⟨b,off,rfl⟩:=hsome om;obtain ⟨fn,O,assign,U,q,hR⟩:=hY _ ⟨k,hlt⟩ wr F (by rw [zA.out];exact hlt);dsimp only at q;have hpv:JV (.slice (some ⟨b,off,none⟩) len cap) k = .slice (some ⟨b,off+k*480,none⟩) (min len ((k+1)*480) - k*480) (cap - k*480):=by simp [JV,hk0]
    rw [hpv] at q;clear hpv hY hk0 hsome;have iw:(k:Int)<=3000000:=om
    by_cases xU:len<=(k+1)*480
    ·rw [Nat.min_eq_left xU] at q;have wF:(len:Int)<=((k:Int)+1)*480:=om
     gi_wp2
     refine hR.mono ?_;rintro e W3 (⟨rfl,hJ3,r⟩ | ⟨rfl,hJx3⟩)
     ·gi_wp2
      go_roundw
      case rel=>exact ⟨k+1,hlt,by go_num,⟨_,by rw [List.range_succ,List.map_append,oU.out];rfl,hJ3⟩,r.trans u⟩
      case measure=>simp [intOf];omega
     ·gi_wp2
      refine bodyPost_ret (results_none rfl _ _ _) rfl ?_;exact ⟨⟨_,rfl⟩, .inr ⟨_,⟨k+1,hlt,om,by rw [List.range_succ,List.map_append,oU.out];rfl⟩,hJx3⟩⟩
    ·rw [Nat.min_eq_right om] at q;have wF:¬ (len:Int)<=((k:Int)+1)*480:=om
     have icap:((k:Int)+1)*480<=(cap:Int):=om
     gi_wp2
     refine hR.mono ?_;rintro e W3 (⟨rfl,hJ3,r⟩ | ⟨rfl,hJx3⟩)
     ·gi_wp2
      go_roundw
      case rel=>exact ⟨k+1,hlt,by go_num,⟨_,by rw [List.range_succ,List.map_append,oU.out];rfl,hJ3⟩,r.trans u⟩
      case measure=>simp [intOf];omega
     ·gi_wp2
      refine bodyPost_ret (results_none rfl _ _ _) rfl ?_;exact ⟨⟨_,rfl⟩, .inr ⟨_,⟨k+1,hlt,om,by rw [List.range_succ,List.map_append,oU.out];rfl⟩,hJx3⟩⟩
   ·have Y:¬ 480*k<len:=by have:=qL.out;omega
    have a2:¬ (k:Int)*480<(len:Int):=om
    obtain rfl:many=k:=om
    have iw:(many:Int)<=3000000:=by have:=qL.out;omega
    gi_wp2
    go_end0
    exact ⟨⟨_,rfl⟩, .inl ⟨_,oU.out,F⟩⟩
theorem Zd (n:Nat) (hn:1<=n) (q:Nat) (a:Option Addr) (len cap:Nat) (u:480<len->∃ b off,a=some ⟨b,off,none⟩) (E:len<=cap) (F:cap<=9223372036854775807) (O:len<=1000000000) (many:Nat) (U:many=max 1 ((len+479) / 480))
  (w:World) (r:w.heap[q]?=some (.cells #[.slice a len cap] 29 (0,0))) :
  SeqStopsK Fence.wide n prog 255 #[.pointer (some ⟨q,0,none⟩)] (fun x:Fin many => #[Value.int .i64 (x.val:Int),JV (.slice a len cap) x.val]) (fun W W'=>W'.heap[q]?=W.heap[q]?) (fun ys=>ys.map (·.val)=List.range many) (fun pre=>∃ k,k<=many/\1<=k/\pre.map (·.val)=List.range k) many w:=fun l J Y W hW _ _ hY h0=>by
 have a2:=au r;exact eP n hn l q a len cap u E F O many U J Y hY W ((hW.block q a2).trans r) h0
def Gi (l:Ad) (of':Nat) (b:List UInt8):List Nat->Af->Af × Int
 | [],d=>(d,0)
 | x :: r,d =>
  if (d.write ((l.first+l.end'+x:Nat):Int) (AA.page ⟨l.stamp,x,of',Ad.part b x⟩)).2 ≠ 0 then d.write ((l.first+l.end'+x:Nat):Int) (AA.page ⟨l.stamp,x,of',Ad.part b x⟩)
  else Gi l of' b r (d.write ((l.first+l.end'+x:Nat):Int) (AA.page ⟨l.stamp,x,of',Ad.part b x⟩)).1
theorem put_eq (l:Ad) (of':Nat) (b:List UInt8):∀ (k i:Nat) (d:Af),Ad.put l of' b k i d=Gi l of' b (List.range' i k) d
 | 0,_,_=>rfl
 | k+1,i,d=>by
  rw [List.range'_succ];unfold Ad.put Gi;dsimp only;rw [put_eq l of' b k (i+1)]
theorem Rw (l:Ad) (of':Nat) (b:List UInt8) (x:Nat):∀ (xs:List Nat) (d:Af),Gi l of' b (xs++[x]) d =
  if (Gi l of' b xs d).2 ≠ 0 then Gi l of' b xs d else (Gi l of' b xs d).1.write ((l.first+l.end'+x:Nat):Int) (AA.page ⟨l.stamp,x,of',Ad.part b x⟩)
 | [],d=>by
  have h0:∀ d:Af,Gi l of' b [] d=(d,0):=fun _=>rfl;rw [List.nil_append,h0];unfold Gi;simp only [h0,ne_eq,not_true_eq_false,if_false];split
  ·rfl
  ·rename_i h;simp only [Decidable.not_not] at h;rw [<-h]
 | y :: xs,d=>by
  rw [List.cons_append];unfold Gi
  by_cases h:(d.write ((l.first+l.end'+y:Nat):Int) (AA.page ⟨l.stamp,y,of',Ad.part b y⟩)).2 ≠ 0
  ·rw [if_pos h,if_pos h,if_pos h]
  ·rw [if_neg h,if_neg h,Rw l of' b x xs]
theorem UU (l:Ad) (of':Nat) (b:List UInt8):∀ (xs ys:List Nat) (d:Af),(Gi l of' b xs d).2 ≠ 0->Gi l of' b (xs++ys) d=Gi l of' b xs d
 | [],_,_,h=>by simp [Gi] at h
 | x :: xs,ys,d,h=>by
  rw [List.cons_append];unfold Gi at h ⊢
  by_cases q:(d.write ((l.first+l.end'+x:Nat):Int) (AA.page ⟨l.stamp,x,of',Ad.part b x⟩)).2 ≠ 0
  ·rw [if_pos q,if_pos q]
  ·rw [if_neg q] at h ⊢;rw [if_neg q];exact UU l of' b xs ys _ h
theorem PE (l:Ad) (of':Nat) (b:List UInt8):∀ (xs:List Nat) (d:Af),(Gi l of' b xs d).1.row.length<=d.row.length+xs.length
 | [],_=>Nat.le_refl _
 | x :: r,d=>by
  unfold Gi;have h:=Af.Nz d ((l.first+l.end'+x:Nat):Int) (AA.page ⟨l.stamp,x,of',Ad.part b x⟩)
  split
  ·simp only [List.length_cons];omega
  ·have:=PE l of' b r (d.write ((l.first+l.end'+x:Nat):Int) (AA.page ⟨l.stamp,x,of',Ad.part b x⟩)).1
   simp only [List.length_cons];omega
def ext (W:World) (o:Own):Own:=fun k=>if k<W.heap.size then o k else (0,0)
def Others (W:World) (row:Option Nat):Prop:=∀ r,row=some r->∃ o:Obj,W.heap[r]?=some o/\o.isCells=false
section
variable {W W':World}{row:Option Nat}{o:Own}
theorem Others.same (h:Others W row) (u:W.grownBy W' row) {k:Nat}{cs:Array Value}{t:TypeId}{fr:Nat × Nat}(q:W.heap[k]?=some (.cells cs t fr)):W'.heap[k]?=some (.cells cs t fr):=by
 rw [u.block k (au q)]
 ·exact q
 ·intro e;obtain ⟨F,r,E⟩:=h k e.symm;rw [q] at r;simp only [Option.some.injEq] at r;subst r;cases E
theorem Others.cell (h:Others W row) (r:W.grownBy W' row) {a:Addr}{v:Value}(hc:W.cell? a=some v):W'.cell? a=some v:=by
 cases q:W.heap[a.block]? with
 | none=>simp [World.cell?,q] at hc
 | some u =>
  cases u with
  | cells E t F=>rw [World.cell?_of_block (w:=W) (a:=a) (by rw [h.same r q,q])];exact hc
  | _=>simp [World.cell?,q] at hc
theorem Bytes.kept {v:Value}{l:List UInt8}(hb:Bytes W o v l) (h:Others W row) (q:W.grownBy W' row):Bytes W' (ext W o) v l:=by
 rcases hb with hb | ⟨b,off,cap,hv,r,u,E,h4,F⟩
 ·exact .inl hb
 ·exact .inr ⟨b,off,cap,hv,r,u,by unfold ext;rw [if_pos h4];exact E,Nat.lt_of_lt_of_le h4 q.size,fun j v J=>h.cell q (F j v J)⟩
theorem MH {e:TypeId}{size n:Nat}{v:Value}{xs:List Value}(q:W.ownsRow 0 e size v n xs) (h:Others W row) (r:W.grownBy W' row):W'.ownsRow 0 e size v n xs:=by
 refine ⟨q.1, ?_⟩
 rcases q.2 with hn | ⟨g,cap,cur,rfl,hb,u,E⟩
 ·exact .inl hn
 ·exact .inr ⟨g,cap,cur,rfl,hb,h.same r u,E⟩
theorem BZ.kept {L p pd:Nat}{m:Ad}(hl:BZ W o L p pd m) (h:Others W row) (q:W.grownBy W' row):BZ W' (ext W o) L p pd m:=by
 obtain ⟨J,O,hp,E,hv,U,Y,a2⟩:=hl;refine ⟨J,O,h.same q hp,MH E h q,⟨⟨hv.1.1,fun i v l r u=>(hv.1.2 i v l r u).kept h q⟩,fun v hx b off n c e hn => ?_⟩, ?_,fun k F => ?_,a2⟩
 ·obtain ⟨r,u⟩:=hv.2 v hx b off n c e hn;exact ⟨Nat.lt_of_lt_of_le r q.size,by unfold ext;rw [if_pos r];exact u⟩
 ·unfold ext;rw [if_pos (au hp)];exact U
 ·unfold ext;rw [if_pos (E.lt k F).2];exact Y k F
theorem Bg.kept {D p:Nat}{d:Af}(E:Bg W o D p d) (h:Others W row) (q:W.grownBy W' row):Bg W' (ext W o) D p d:=by
 obtain ⟨F,J,hp,hl,r,O,U,Y,a2⟩:=E;refine ⟨F,J,h.same q hp,h.same q hl,MH r h q, ?_, ?_,fun k u => ?_,a2⟩
 ·unfold ext;rw [if_pos (au hp)];exact O
 ·unfold ext;rw [if_pos (au hl)];exact U
 ·unfold ext;rw [if_pos (r.lt k u).2];exact Y k u
theorem aj.kept {T:Nat->Prop}{F:World}{J:Own}(q:aj T F J W o) (u:W.grownBy W' row) (O:∀ r,row=some r->F.heap.size<=r):aj T F J W' (ext W o):=by
 refine ⟨u.os.trans q.os,u.tape.trans q.tape,u.output.trans q.output,Nat.le_trans q.size u.size,fun k E => ?_,fun k E U => ?_⟩
 ·unfold ext;rw [if_pos (Nat.lt_of_lt_of_le E q.size)];exact q.own k E
 ·rw [u.block k (Nat.lt_of_lt_of_le E q.size) (fun e=>by have:=O k e.symm;omega)];exact q.block k E U
end
def Plain (B:Nat) (T:Nat->Prop) (W:World) (o:Own):Prop:=∀ k ob,B<=k->W.heap[k]?=some ob->ob.isCells=false->¬ T (o k).1
theorem Plain.keeps {B:Nat}{T:Nat->Prop}{W W':World}{o o':Own}(h:Plain B T W o) (q:aj T W o W' o'):KeepsFrom B W W':=
 ⟨q.size,fun k r u hb hc=>by rw [q.block k (Array.getElem?_eq_some_iff.1 hb).1 (h k r u hb hc)];exact hb⟩
def Cb (B:Nat) (W:World) (o:Own):Own:=fun k=>if B<=k then (match W.heap[k]? with | some (.cells _ _ _)=>o k | _=>(0,0)) else o k
section
variable {W:World}{o:Own}{B:Nat}
theorem DY {k:Nat}{cs:Array Value}{t:TypeId}{fr:Nat × Nat}(h:W.heap[k]?=some (.cells cs t fr)):Cb B W o k=o k:=by
 unfold Cb;rw [h];simp
theorem QM {k:Nat}(h:(o k).1=0):(Cb B W o k).1=0:=by
 unfold Cb;split
 ·split
  ·exact h
  ·rfl
 ·exact h
theorem JU (T:Nat->Prop) (h0:¬ T 0):Plain B T W (Cb B W o):=by
 intro k q r hb hc;unfold Cb;rw [if_pos r,hb]
 cases q <;> first | exact h0 | (simp [Obj.isCells] at hc)
theorem Bytes.Cb {v:Value}{l:List UInt8}(hb:Bytes W o v l):Bytes W (Cb B W o) v l:=by
 rcases hb with hb | ⟨b,off,cap,hv,q,r,u,h4,E⟩
 ·exact .inl hb
 ·exact .inr ⟨b,off,cap,hv,q,r,QM u,h4,E⟩
theorem Ou {e:TypeId}{size n:Nat}{v:Value}{xs:List Value}(r:W.ownsRow 0 e size v n xs) {k:Nat}(q:v.ownBlock=some k):Cb B W o k=o k:=by
 rcases r.2 with ⟨rfl,_⟩ | ⟨g,cap,cur,rfl,hb,u,E⟩
 ·simp [Value.ownBlock] at q
 ·simp only [Value.ownBlock,Option.some.injEq] at q;subst q;exact DY u
theorem BZ.Cb {L p pd:Nat}{m:Ad}(hl:BZ W o L p pd m):BZ W (Cb B W o) L p pd m:=by
 obtain ⟨U,Y,hp,u,hv,op,wI,a2⟩:=hl;refine ⟨U,Y,hp,u,⟨⟨hv.1.1,fun i v l q r=>(hv.1.2 i v l q r).Cb⟩,fun v E b off n c e hn => ?_⟩,by rw [DY hp];exact op,fun k F=>by rw [Ou u F];exact wI k F,a2⟩;obtain ⟨q,r⟩:=hv.2 v E b off n c e hn;obtain ⟨i,J⟩:=List.mem_iff_getElem?.1 E;have a3:=(List.getElem?_eq_some_iff.1 J).1
 rcases hv.1.2 i v _ J (List.getElem?_eq_getElem (by rw [<-hv.1.1];exact a3)) with ⟨⟨_,_,e2⟩,_⟩ | ⟨b',a4,a5,e2,_,_,_,_,h5⟩
 ·rw [e] at e2;simp only [Value.slice.injEq] at e2;omega
 ·rw [e] at e2;simp only [Value.slice.injEq,Option.some.injEq,Addr.mk.injEq] at e2;obtain ⟨⟨rfl,rfl, -⟩,a6,rfl⟩:=e2;have O:=h5 0 _ (List.getElem?_eq_getElem (by rw [Bh];omega));refine ⟨q, ?_⟩
  cases hb:W.heap[b]? with
  | none=>simp [World.cell?,hb] at O
  | some ob =>
   cases ob with
   | cells cs t fr=>rw [DY hb];exact r
   | _=>simp [World.cell?,hb] at O
theorem Bg.Cb {D p:Nat}{d:Af}(u:Bg W o D p d):Bg W (Cb B W o) D p d:=by
 obtain ⟨E,F,hp,hl,q,J,O,U,Y⟩:=u;exact ⟨E,F,hp,hl,q,by rw [DY hp];exact J,by rw [DY hl];exact O,fun k r=>by rw [Ou q r];exact U k r,Y⟩
theorem aj.Cb {T:Nat->Prop}{r:World}{u:Own}(q:aj T r u W o) (F:r.heap.size<=B):aj T r u W (Cb B W o):=
 ⟨q.os,q.tape,q.output,q.size,fun k E=>by unfold YtffkdillijmamaaGreat.Cb;rw [if_neg om];exact q.own k E,q.block⟩
end
theorem Held.cells {w:World}{p pd:Nat}{m:Ad}(h:Held w p pd m):w.cell? ⟨p,0,none⟩=some (.pointer (some ⟨pd,0,none⟩))/\w.cell? ⟨p,1,none⟩=some (.int .i64 (m.first:Int))/\w.cell? ⟨p,3,none⟩=some (.int .u64 (m.stamp.toNat:Int))/\w.cell? ⟨p,5,none⟩=some (.int .i64 (m.end':Int)):=
 ⟨h.1,h.2.1,h.2.2.2.1,h.2.2.2.2.2.1⟩
theorem aj.fA {L D X:Nat}{w w':World}{o o':Own}(h:aj (fun k=>k=L \/ k=D \/ k=X) w o w' o') (E:∀ k,k<w.heap.size->(o k).1 ≠ X):aj (In L D) w o w' o':=
 ⟨h.os,h.tape,h.output,h.size,h.own,fun k r u=>h.block k r (by rintro (q | q | q);exact u (.inl q);exact u (.inr q);exact E k r q)⟩
def sG (L D X:Nat):Nat->Prop:=fun k=>k=L \/ k=D \/ k=X
section
variable {w:World}{o:Own}{L D p pd:Nat}{s:Ad × Af}
def capLe (v:Value):Prop:=∀ a n c,v = .slice a n c->c<=9223372036854775807
theorem Yi (hL:L ≠ 0) (hD:D ≠ 0) (c9:L ≠ D) (h:LD w o L D p pd s) (d3:s.2.row.length<=800000) (b:List UInt8) (bv:Value) (hb:Bytes w o bv b) (m2:capLe bv) (e4:Ad.many b<=s.1.n - s.1.end') (rF:b.length<=960000) (bl bb bm:Nat) (d4:Box w o bl 162 (.pointer (some ⟨p,0,none⟩))) (d5:Box w o bb 29 bv) (g0:Box w o bm 3 (.int .i64 (Ad.many b:Int))) :
  Calls prog 235 #[.pointer (some ⟨bl,0,none⟩), .pointer (some ⟨bb,0,none⟩), .pointer (some ⟨bm,0,none⟩)] w (XL (In L D) w o fun v w' o'=>v = .int .i64 (Ad.step3 b s).2/\LD w' o' L D p pd (Ad.step3 b s).1):=by
 obtain ⟨m,d⟩:=s;obtain ⟨pK,e5⟩:=h;simp only at pK e5 e4 d3;obtain ⟨X,q2,g8⟩:=KT o w.heap.size (L+D);have hX:X ≠ 0/\X ≠ L/\X ≠ D:=om
 obtain ⟨g1,g2,g3,g4,g5,g6,g7⟩:=pK.wf;have hN:¬ In L D 0:=fun h=>by rcases h with h | h <;> omega
 have xP:¬ sG L D X 0:=fun h=>by rcases h with h | h | h <;> omega
 obtain ⟨many,a6⟩:=az (Ad.many b);have q3:1<=many:=by rw [<-a6];exact Ad.Ko b
 have uB:many=max 1 ((b.length+479) / 480):=by rw [<-a6];rfl
 have vH:=ae uB;have q4:many<=2000:=by rw [a6] at e4;omega
 obtain ⟨st,e6⟩:=az (m.stamp+1#64);have a9:=Rf m.stamp;rw [e6] at a9;obtain ⟨q,a4⟩:∃ q:Ad,({ m with stamp:=st }:Ad)=q:=⟨_,rfl⟩;obtain ⟨rv,vs,⟨c0,c1,c2,c3,c4,c5,c6,c7⟩,hf, -⟩:=pK.open;have f3:=hf 3;have g9:=d4.cell;have h3:=d5.cell;have wS:p<w.heap.size:=pK.lt;have h5:=pK.set (m':=q) hL 3 (.int .u64 (st.toNat:Int)) (fun rv=>by rw [<-a4];rfl) (by rw [<-a4]) (by rw [<-a4];exact Ad.Uo pK.wf _);have rM:=pK.DC 3 (.int .u64 (st.toNat:Int));have h6:=e5.step rM (fun e=>c9 e.symm);have h7:=hb.step rM (fun e=>hL e.symm);have h8:=d4.step rM (fun e=>hL e.symm);have m5:=d5.step rM (fun e=>hL e.symm);have h9:=g0.step rM (fun e=>hL e.symm);have e7:(w.setCell ⟨p,3,none⟩ (.int .u64 (st.toNat:Int))).heap.size=w.heap.size:=by simp
 have rJ:=(aj.refl ai (w.setCell ⟨p,3,none⟩ (.int .u64 (st.toNat:Int))) o).alloc (.cells #[.int .i64 0] 23) (X,0);have e8:((w.setCell ⟨p,3,none⟩ (.int .u64 (st.toNat:Int))).alloc (.cells #[.int .i64 0] 23)).heap[w.heap.size]?=some (.cells #[.int .i64 0] 23 (0,0)):=by rw [<-e7];exact heap_alloc_new _ _
 have yS:Ak o (w.setCell ⟨p,3,none⟩ (.int .u64 (st.toNat:Int))).heap.size (X,0) w.heap.size=(X,0):=by rw [e7];exact Au _ _ _
 have qI:=(aj.refl ai ((w.setCell ⟨p,3,none⟩ (.int .u64 (st.toNat:Int))).alloc (.cells #[.int .i64 0] 23)) (Ak o (w.setCell ⟨p,3,none⟩ (.int .u64 (st.toNat:Int))).heap.size (X,0))).alloc (.cells #[bv] 29) (0,0);have b1:=Box.new ((w.setCell ⟨p,3,none⟩ (.int .u64 (st.toNat:Int))).alloc (.cells #[.int .i64 0] 23)) (Ak o (w.setCell ⟨p,3,none⟩ (.int .u64 (st.toNat:Int))).heap.size (X,0)) 29 bv;have e9:((w.setCell ⟨p,3,none⟩ (.int .u64 (st.toNat:Int))).alloc (.cells #[.int .i64 0] 23)).heap.size=w.heap.size+1:=by simp
 have i0:=(h5.step rJ id id).step qI id id;have i4:=(h6.step rJ id).step qI id;have f0:=(h7.step rJ id).step qI id;have uI:=(h8.step rJ id).step qI id;have xJ:=(h9.step rJ id).step qI id;have i5:=au e8;have f1:=(qI.block w.heap.size i5 id).trans e8;have wR:=(qI.own w.heap.size i5).trans yS;have b2:aj (sG L D X) w o _ _:=((rM.mono (fun k h=>(.inl h:sG L D X k))).trans (rJ.mono (fun k h=>h.elim))).trans (qI.mono (fun k h=>h.elim));have m6:=au d4.1;have m7:=au d5.1;have m8:(w.alloc (.cells #[.int .i64 0] 23)).cell? ⟨bl,0,none⟩=some (.pointer (some ⟨p,0,none⟩)):=by rw [World.cell?_alloc_lt _ _ _ m6];exact g9
 have m9:(w.alloc (.cells #[.int .i64 0] 23)).cell? ⟨p,3,none⟩=some (.int .u64 (m.stamp.toNat:Int)):=by rw [World.cell?_alloc_lt _ _ _ wS];exact c3
 have n0:(w.alloc (.cells #[.int .i64 0] 23)).frozen? ⟨p,3,none⟩=false:=by rw [World.frozen?_of_block (w:=w) (a:=⟨p,3,none⟩) (Below.heap_alloc _ _ _ wS)];exact f3
 have n4:((w.setCell ⟨p,3,none⟩ (.int .u64 (st.toNat:Int))).alloc (.cells #[.int .i64 0] 23)).cell? ⟨bb,0,none⟩=some bv:=by rw [World.cell?_alloc_lt _ _ _ (by simpa using m7),World.cell?_setCell_other _ _ _ _ (by simp)];exact h3
 clear g9 c3 f3 h3;obtain ⟨ba,bc,n5⟩:=Aq hb;have i6:q.first=m.first:=by rw [<-a4]
 have i7:q.end'=m.end':=by rw [<-a4]
 have n6:q.stamp=st:=by rw [<-a4]
 have hE:Ad.step3 b (m,d)=if (Gi q many b (List.range many) d).2 ≠ 0 then ((q,(Gi q many b (List.range many) d).1),(Gi q many b (List.range many) d).2) else ((q,(Gi q many b (List.range many) d).1.sync.1),(Gi q many b (List.range many) d).1.sync.2):=by
  unfold Ad.step3;simp only [e6,a4,a6,put_eq, <-List.range_eq_range']
 have a7:=ae hE;have q5:=ae a4;have q6:=ae i6;have q7:=ae i7;have tV:∀ {a:Option Addr}{c:Nat},bv = .slice a b.length c->(480<b.length->∃ b' i8,a=some ⟨b',i8,none⟩)/\b.length<=c/\c<=9223372036854775807:=by
  intro a c hv
  rcases hb.cases with ⟨⟨a',c',i9⟩,j0⟩ | ⟨b',i8,q8,i9,h1,h2,_⟩
  ·exact ⟨fun h=>by rw [j0] at h;simp at h,by rw [j0];simp,m2 _ _ _ hv⟩
  ·rw [i9] at hv;simp only [Value.slice.injEq] at hv;obtain ⟨rfl,_,rfl⟩:=hv;exact ⟨fun _=>⟨_,_,rfl⟩,h1,by simp only [maxLen] at h2;omega⟩
 rw [a6] at xJ;rw [e9] at b1;clear hE a4 i6 i7 rM h5 h6 h7 h8 m5 h9 pK e5 uB d4 d5 g0 c0 c1 c2 c4 c5 c6 c7 hf e6 e4 rJ e8 yS qI hb;subst n5;obtain ⟨n7,n8,n9⟩:=tV rfl;clear tV;refine (callsIn_wide (n:=9)).1 ?_;refine callsIn_of_wp_marks func235 rfl trivial ?_ rfl;simp only [ntmps235,List.size_toArray,List.length_cons,List.length_nil,Nat.reduceAdd,Nat.reduceSub,Array.replicate_succ,Array.replicate_zero,List.push_toArray,List.append_toArray,List.nil_append,List.cons_append]
 gi_wp2_with (refine ⟨trivial,(callsIn_wide.2 (eH _ _ _ _)).mono ?_⟩;rintro e w' ⟨rfl,rfl⟩)
 clear m8 m9 n0 n4 a9;generalize o3:((w.setCell ⟨p,3,none⟩ (.int .u64 (st.toNat:Int))).alloc (.cells #[.int .i64 0] 23)).alloc (.cells #[.slice ba b.length bc] 29)=E at *;rw [e9] at b2 i0 i4 f0 uI xJ wR;generalize o4:Ak (Ak o (w.setCell ⟨p,3,none⟩ (.int .u64 (st.toNat:Int))).heap.size (X,0)) (w.heap.size+1) (0,0)=o0 at *;clear o3 o4 e7 e9;obtain ⟨u,j1⟩:=az (w.heap.size);rw [j1] at f1 wR b1 ⊢;have q9:w.heap.size<=u:=om
 clear j1;have r0:u<E.heap.size:=au f1;obtain ⟨pv,f2⟩:∃ pv:Nat->Value,∀ x,JV (.slice ba b.length bc) x=pv x:=⟨_,fun _=>rfl⟩;have j2:∀ x,x<many->Bytes E o0 (pv x) (Ad.part b x):=fun x hx=>by rw [<-f2];exact AiL f0 x (by rw [a6];exact hx)
 have wV:=ae j2;have o5:=ae f2;clear j2 f2 f0 a6;obtain ⟨F,j3⟩:∃ F:List (Fin many)->Af × Int,∀ pre,F pre=Gi q many b (pre.map (·.val)) d:=⟨_,fun _=>rfl⟩;have qE:=ae j3;clear j3;have own:∀ (e:Int->Prop) (j4:List (Fin many)->Int),OwnFrom E.heap.size (fun pre W=>∃ o',aj (sG L D X) E o0 W o'/\BZ W o' L p pd q/\Bg W o' D pd (F pre).1/\e (F pre).2/\W.heap[u]?=some (.cells #[.int .i64 (j4 pre)] 23 (0,0))/\o' u=(X,0)):=by
  rintro e j4 pre A A' row ⟨o',J,hl,Y,he,O,a2⟩ U d3;have a3:Others A row:=fun r e=>(d3 r e).2;exact ⟨ext A o',J.kept U (fun r e=>(d3 r e).1),hl.kept a3 U,Y.kept a3 U,he,a3.same U O,by unfold ext;rw [if_pos (au O)];exact a2⟩
 obtain ⟨b3,j5⟩:∃ b3:Int->Prop,∀ e,b3 e=(e=0):=⟨_,fun _=>rfl⟩;obtain ⟨b4,j6⟩:∃ b4:Int->Prop,∀ e,b4 e=(e ≠ 0):=⟨_,fun _=>rfl⟩;have sJ:=ae j5;have uN:=ae j6;clear j5 j6;refine wpIn_rangeFunc_ownG (α:=Fin many) rfl om (gf:=255) (lb := #[.pointer (some ⟨u+1,0,none⟩)]) rfl trivial (enters_of func255 (by kernel_rfl) rfl)
  (Zd 8 om (u+1) ba b.length bc n7 n8 n9 om many vH.out E b1.1) (fun h k=>k.trans h) (fun W l ob o' hl hk hc _ => ?hkb) (Below.refl _ _) (fun _=>rfl)
  (fun pre W=>∃ o',aj (sG L D X) E o0 W o'/\BZ W o' L p pd q/\Bg W o' D pd (F pre).1/\b3 (F pre).2/\W.heap[u]?=some (.cells #[.int .i64 0] 23 (0,0))/\o' u=(X,0))
  (fun c pre W=>c = .ret/\∃ o',aj (sG L D X) E o0 W o'/\BZ W o' L p pd q/\Bg W o' D pd (F pre).1/\b4 (F pre).2/\W.heap[u]?=some (.cells #[.int .i64 (F pre).2] 23 (0,0))/\o' u=(X,0))
  (own b3 (fun _=>0)) (fun c pre A A' row h U O=>⟨h.1,own b4 (fun pre=>(F pre).2) pre A A' row h.2 U O⟩)
  ⟨o0,aj.refl _ _ _,i0,by rw [qE.out];exact i4,by rw [qE.out,sJ.out];rfl,f1,wR⟩
  (fun x=>{ tmps := #[.pointer (some ⟨bl,0,none⟩), .pointer (some ⟨bb,0,none⟩), .pointer (some ⟨bm,0,none⟩), .pointer (some ⟨u,0,none⟩), .int .i64 (x.val:Int),pv x.val,undef, .pointer (some ⟨p,0,none⟩), .pointer (some ⟨p,0,none⟩), .pointer (some ⟨p,3,none⟩), .int .u64 (m.stamp.toNat:Int), .int .u64 (st.toNat:Int), .pointer (some ⟨p,0,none⟩), .pointer (some ⟨p,3,none⟩), .slice ba b.length bc, .func (.func 255) #[] #[.pointer (some ⟨u+1,0,none⟩)], .int .i64 (x.val:Int),pv x.val,undef,undef,undef,undef,undef,undef,undef,undef,undef,undef,undef,undef,undef,undef,undef,undef,undef,undef,undef,undef,undef,undef,undef,undef,undef,undef,undef,undef,undef,undef,undef,undef,undef],defers:=[] }) ?assign ?body ?done ?stop
 case hkb =>
  show (W.putObj l o').heap[u+1]?=W.heap[u+1]?;exact World.putObj_heap_other (by have:=au b1.1;omega)
 case assign =>
  intro l x W K hK;simp only [o5.out]
  gi_wp2
  exact hK
 case body =>
  rintro l pre x W ⟨o1,J,hl,Y,he,O,a2⟩ o9;have b5:=JU (B:=E.heap.size) (W:=W) (o:=o1) (sG L D X) xP
  replace J:=J.Cb (B:=E.heap.size) (Nat.le_refl _)
  replace hl:=hl.Cb (B:=E.heap.size)
  replace Y:=Y.Cb (B:=E.heap.size)
  replace a2:Cb E.heap.size W o1 u=(X,0):=by rw [DY O];exact a2
  generalize Cb E.heap.size W o1=o2 at *;clear o1;have f4:=uI.step J xP;have f5:=xJ.step J xP;have j7:=b1.step J xP;obtain ⟨x,hx⟩:=x;have b6:=(wV.out x hx).step J xP;have r1:(F pre).1.row.length<=900000:=by
   rw [qE.out];have:=PE q many b (pre.map (·.val)) d;rw [List.length_map] at this;omega
  have qV:F (pre++[⟨x,hx⟩])=(F pre).1.write ((q.first+q.end'+x:Nat):Int) (AA.page ⟨q.stamp,x,many,Ad.part b x⟩):=by
   rw [qE.out,qE.out,List.map_append,List.map_cons,List.map_nil,Rw, <-qE.out,if_neg (by rw [sJ.out] at he;omega)]
  have qW:=Ad.CX b x;obtain ⟨pb,zB⟩:=az (Ad.part b x);rw [zB] at b6 qV qW;clear zB;generalize p0:(F pre).1=d1 at *;clear p0;rw [n6] at qV;obtain ⟨d2,e2,hw⟩:∃ d2 e2,d1.write ((q.first+q.end'+x:Nat):Int) (AA.page ⟨st,x,many,pb⟩)=(d2,e2):=⟨_,_,rfl⟩
  rw [hw] at qV;have pY:=ae qV;have j8:=ae hw;obtain ⟨pa,pc,yX⟩:=Aq b6;have vY:=hl.held.cells;obtain ⟨w1,w2,w3,w4,w5, -⟩:=hl.wf;have p1:W.cell? ⟨bl,0,none⟩=some (.pointer (some ⟨p,0,none⟩))/\W.cell? ⟨bm,0,none⟩=some (.int .i64 (many:Int))/\W.cell? ⟨p,0,none⟩=some (.pointer (some ⟨pd,0,none⟩))/\W.cell? ⟨p,1,none⟩=some (.int .i64 (q.first:Int))/\W.cell? ⟨p,3,none⟩=some (.int .u64 (q.stamp.toNat:Int))/\W.cell? ⟨p,5,none⟩=some (.int .i64 (q.end':Int)):=⟨f4.cell,f5.cell,vY⟩
  have i1:(q.first:Int)<=4096:=om
  have i2:(q.end':Int)<=2000:=om
  have i3:(x:Int)<=2000:=om
  clear qV hw he vY w1 w2 w3 w4 w5 own o9;rw [yX] at b6 ⊢;clear yX
  gi_wp2
  refine OI (fun w'=>w'.cell? ⟨bl,0,none⟩=some (.pointer (some ⟨p,0,none⟩))/\w'.cell? ⟨bm,0,none⟩=some (.int .i64 (many:Int))/\w'.cell? ⟨p,0,none⟩=some (.pointer (some ⟨pd,0,none⟩))/\w'.cell? ⟨p,1,none⟩=some (.int .i64 (q.first:Int))/\w'.cell? ⟨p,3,none⟩=some (.int .u64 (q.stamp.toNat:Int))/\w'.cell? ⟨p,5,none⟩=some (.int .i64 (q.end':Int))) (fun _=>true) (by kernel_rfl) (by kernel_rfl) (fun ⟨_,_,h⟩=>h) p1 (fun j9 => ?_)
  refine tq 0 (h:=tq 1 (h:=tq 2 (h:=tq 3 (h:=tq 4 (h:=tq 5 (h:=tq 6 (h:=tq 7 (h:=tq 8 (h:=tq 9 (h:=tq 10 (h:=tq 11 (h:=tq 12 (h:=tq 13 (h:=?_))))))))))))));refine tq 14 (h:=tq 15 (h:=tq 16 (h:=tq 17 (h:=tq 18 (h:=tq 19 (h:=tq 20 (h:=tq 21 (h:=tq 22 (h:=?_)))))))));rw [wrap_i64 (n:=(q.first:Int)+(q.end':Int)) om om,wrap_i64 (n:=(q.first:Int)+(q.end':Int)+(x:Int)) om om,show (q.first:Int)+(q.end':Int)+(x:Int)=((q.first+q.end'+x:Nat):Int) from by omega]
  obtain ⟨at',f6⟩:∃ at':Int,((q.first+q.end'+x:Nat):Int)=at':=⟨_,rfl⟩
  rw [f6];have hw:=j8.out;rw [f6] at hw;clear f6 j8;have b7:aj ai W o2 W.drew o2:=(aj.refl _ _ _).drew;have k3:=hl.step b7 id id;have k7:=Y.step b7 id;have zC:=b6.step b7 id;have qX:=PK (w:=W.drew) (o:=o2) (bv := .slice pa pb.length pc) ⟨st,x,many,pb⟩ zC qW (by show x<=1000000;omega) (by show many<=1000000;omega);have p2:=au f4.1;have p3:=au f5.1;have p4:=hl.lt;have keep:∀ {A A':World}{oa oa':Own},aj (ak D) A oa A' oa'->W.heap.size<=A.heap.size->(∀ k,k<W.heap.size->oa k=o2 k)->(A.cell? ⟨bl,0,none⟩=some (.pointer (some ⟨p,0,none⟩))/\A.cell? ⟨bm,0,none⟩=some (.int .i64 (many:Int))/\A.cell? ⟨p,0,none⟩=some (.pointer (some ⟨pd,0,none⟩))/\A.cell? ⟨p,1,none⟩=some (.int .i64 (q.first:Int))/\A.cell? ⟨p,3,none⟩=some (.int .u64 (q.stamp.toNat:Int))/\A.cell? ⟨p,5,none⟩=some (.int .i64 (q.end':Int)))->(A'.cell? ⟨bl,0,none⟩=some (.pointer (some ⟨p,0,none⟩))/\A'.cell? ⟨bm,0,none⟩=some (.int .i64 (many:Int))/\A'.cell? ⟨p,0,none⟩=some (.pointer (some ⟨pd,0,none⟩))/\A'.cell? ⟨p,1,none⟩=some (.int .i64 (q.first:Int))/\A'.cell? ⟨p,3,none⟩=some (.int .u64 (q.stamp.toNat:Int))/\A'.cell? ⟨p,5,none⟩=some (.int .i64 (q.end':Int))):=fun J r2 ho h=>by
   have e1:=J.block bl om (by rw [ho bl p2,f4.2];exact fun e=>hD e.symm);have e2:=J.block bm om (by rw [ho bm p3,f5.2];exact fun e=>hD e.symm);have e3:=J.block p om (by rw [ho p p4,hl.wE];exact fun e=>c9 e);exact ⟨(World.cell?_of_block (a:=⟨bl,0,none⟩) e1).trans h.1,(World.cell?_of_block (a:=⟨bm,0,none⟩) e2).trans h.2.1,(World.cell?_of_block (a:=⟨p,0,none⟩) e3).trans h.2.2.1,(World.cell?_of_block (a:=⟨p,1,none⟩) e3).trans h.2.2.2.1,(World.cell?_of_block (a:=⟨p,3,none⟩) e3).trans h.2.2.2.2.1,(World.cell?_of_block (a:=⟨p,5,none⟩) e3).trans h.2.2.2.2.2⟩
  refine tO 23 (h:=?_);go_wp2_with fail;refine qX.mono ?_;rintro e W6 ⟨v6,o6,rfl,b8,vG⟩;have d6:=keep (b8.only D) (Nat.le_refl _) (fun _ _=>rfl) j9;have k8:=k3.step b8 id id;have k9:=k7.step b8 id;have zD:=vG.bytes;have pW:aj (In L D) W o2 W6 o6:=b7.uV.trans b8.uV;have a9:=Uk k9 hD om at' v6 _ zD hw;clear qX vG k3 k7 b7 b6 zC;go_wp2_with fail;refine ⟨fun _=>d6, ?_⟩;refine tO 24 (h:=?_);go_wp2_with fail;refine a9.mono ?_;rintro e W7 ⟨v7,o7,rfl,d7,rfl,d8⟩;have p5:W.heap.size<=W6.heap.size:=pW.size;have d9:=keep d7 p5 (fun k hk=>pW.own k hk) d6;have wY:=k8.step d7 (fun e=>c9 e) (fun e=>hD e.symm);have qF:aj (In L D) W o2 W7 o7:=pW.trans d7.inD;clear a9 k8 k9 b8 d7 zD pW j9 keep;go_wp2_with fail;refine ⟨fun _=>d9, ?_⟩;refine tO 25 (h:=?_);go_wp2_with fail;refine ⟨fun _=>d9, ?_⟩;refine tD (h:=?_);have p6:¬ In L D (o2 u).1:=by rw [a2];rintro (h | h);exact hX.2.1 h;exact hX.2.2 h
  have b9:=au O;have yU:W7.heap[u]?=some (.cells #[.int .i64 0] 23 (0,0)):=(qF.block u b9 p6).trans O;have wQ:o7 u=(X,0):=(qF.own u b9).trans a2;have uY:aj (sG L D X) W o2 W7 o7:=qF.mono (fun k h=>by rcases h with h | h;exact .inl h;exact .inr (.inl h))
  have rZ:W7.heap[u+1]?=W.heap[u+1]?:=qF.block (u+1) (au j7.1) (by rw [j7.2];exact hN)
  by_cases c8:e2=0
  ·have hI:∃ o',aj (sG L D X) E o0 W7 o'/\BZ W7 o' L p pd q/\Bg W7 o' D pd (F (pre++[⟨x,hx⟩])).1/\b3 (F (pre++[⟨x,hx⟩])).2/\W7.heap[u]?=some (.cells #[.int .i64 0] 23 (0,0))/\o' u=(X,0):=
    ⟨o7,J.trans uY,wY,by rw [pY.out];exact d8,by rw [pY.out,sJ.out];exact c8,yU,wQ⟩
   have f7:=ae hI;have xQ:=ae (b5.keeps uY);subst c8;clear hI d9 d6 wY d8
   gi_wp2
   exact ⟨xQ.out,rZ,f7.out⟩
  ·have r3:(e2 != 0)=true:=by simpa using c8
   have r4:=Ap yU 0;have r5:W7.cell? ⟨u,0,none⟩=some (.int .i64 0):=cell_of_one yU;have a5:=(aj.refl (ak X) W7 o7).setCell (a:=⟨u,0,none⟩) (.int .i64 e2) (.inl (by show (o7 u).1=X;rw [wQ]));have tJ:aj (sG L D X) W7 o7 _ o7:=a5.mono (fun k h=>(.inr (.inr h):sG L D X k));have vU:=Ai (i:=0) (.int .i64 e2) yU;simp only [DL] at vU;have hI:∃ o',aj (sG L D X) E o0 (W7.setCell ⟨u,0,none⟩ (.int .i64 e2)) o'/\BZ (W7.setCell ⟨u,0,none⟩ (.int .i64 e2)) o' L p pd q/\Bg (W7.setCell ⟨u,0,none⟩ (.int .i64 e2)) o' D pd (F (pre++[⟨x,hx⟩])).1/\b4 (F (pre++[⟨x,hx⟩])).2/\(W7.setCell ⟨u,0,none⟩ (.int .i64 e2)).heap[u]?=some (.cells #[.int .i64 (F (pre++[⟨x,hx⟩])).2] 23 (0,0))/\o' u=(X,0):=
    ⟨o7,(J.trans uY).trans tJ,wY.step a5 (fun e=>hX.2.1 e.symm) (fun e=>hX.1 e.symm),by rw [pY.out];exact d8.step a5 (fun e=>hX.2.2 e.symm),by rw [pY.out,uN.out];exact c8,by rw [pY.out];exact vU,wQ⟩
   have f7:=ae hI;have xQ:=ae (b5.keeps (uY.trans tJ));clear hI d9 d6 wY d8 c8 a5 tJ vU yU
   gi_wp2
   exact ⟨xQ.out,rfl,f7.out⟩
 case done =>
  rintro D' xs W l0 e0 ⟨o1,J,hl,Y,he,O,a2⟩ hK;have b5:=JU (B:=E.heap.size) (W:=W) (o:=o1) (sG L D X) xP
  replace J:=J.Cb (B:=E.heap.size) (Nat.le_refl _)
  replace hl:=hl.Cb (B:=E.heap.size)
  replace Y:=Y.Cb (B:=E.heap.size)
  replace a2:Cb E.heap.size W o1 u=(X,0):=by rw [DY O];exact a2
  generalize Cb E.heap.size W o1=o2 at *;clear o1;have p7:=b5 D' _ l0 hK rfl;have l1:(F xs).1.row.length<=1000000:=by
   rw [qE.out,e0];have:=PE q many b (List.range many) d;rw [List.length_range] at this;omega
  have l2:(Gi q many b (List.range many) d).2=0:=by rw [<-e0, <-qE.out];rw [sJ.out] at he;exact he
  rw [qE.out,e0] at Y l1;rw [if_neg (by rw [l2];simp)] at a7;generalize (Gi q many b (List.range many) d).1=dN at *;obtain ⟨d2,e2,hy⟩:∃ d2 e2,dN.sync=(d2,e2):=⟨_,_,rfl⟩;rw [hy] at a7;have l3:=XD Y l1 hy;have r6:=(uI.step J xP).cell;obtain ⟨h0, -⟩:=hl.held.cells;have b9:=au O;have p8:=(Array.getElem?_eq_some_iff.1 hK).1;clear he hy l2 own b5 Y e0
  gi_wp2_with (
    refine ⟨trivial,(callsIn_wide.2 l3).mono ?_⟩;rintro e W8 ⟨v8,o8,rfl,a8,rfl,l4⟩;have vU:W8.heap[u]?=_:=(a8.block u b9 (by rw [a2];exact fun e=>hX.2.2 e)).trans O;have p9:o8 u=(X,0):=(a8.own u b9).trans a2;have l5:W8.heap[D']?=_:=(a8.block D' p8 (fun e=>p7 (.inr (.inl e)))).trans hK;have r7:=Ap vU 0;have r8:W8.cell? ⟨u,0,none⟩=some (.int .i64 0):=cell_of_one vU;have l6:=hl.step a8 (fun e=>c9 e) (fun e=>hD e.symm);have a5:=(aj.refl (ak X) W8 o8).setCell (a:=⟨u,0,none⟩) (.int .i64 e2) (.inl (by show (o8 u).1=X;rw [p9]));have l7:=Ai (i:=0) (.int .i64 e2) vU;simp only [DL] at l7;have q0:=l6.step a5 (fun e=>hX.2.1 e.symm) (fun e=>hX.1 e.symm);have q1:=l4.step a5 (fun e=>hX.2.2 e.symm);have l8:(W8.setCell ⟨u,0,none⟩ (.int .i64 e2)).heap[D']?=_:=(Below.heap_setCell _ _ _ _ (by show D' ≠ u;omega)).trans l5;have wL:=((b2.trans J).trans (a8.mono (fun k h=>(.inr (.inl h):sG L D X k)))).trans (a5.mono (fun k h=>(.inr (.inr h):sG L D X k)));clear l3 a8 l6 l4 a5 vU l5)
  have a3:Others (W8.setCell ⟨u,0,none⟩ (.int .i64 e2)) (some D'):=fun r e=>by cases e;exact ⟨_,l8,rfl⟩
  have U:=grownBy_putObj' (W8.setCell ⟨u,0,none⟩ (.int .i64 e2)) D' (.deferred none);have f8:((W8.setCell ⟨u,0,none⟩ (.int .i64 e2)).putObj D' (.deferred none)).cell? ⟨u,0,none⟩=some (.int .i64 e2):=a3.cell U (cell_of_one l7);refine ⟨by simp, .inl ⟨_,_,rfl,run_takeDeferred l8, ?_⟩⟩;refine ⟨.int .i64 e2, ?_, ?_⟩
  ·simp [results,Tryz.f235,go_sem,f8]
  ·rw [a7.out];refine ⟨_,ext (W8.setCell ⟨u,0,none⟩ (.int .i64 e2)) o8,rfl, ?_,rfl,q0.kept a3 U,q1.kept a3 U⟩;exact aj.fA (wL.kept U (fun r e=>by cases e;have:=b2.size;omega)) g8
 case stop =>
  rintro D' c pre W l0 ⟨k,hk,r9,f9⟩ ⟨rfl,o1,J,hl,Y,he,O,a2⟩ hK;have vM:F pre=Gi q many b (List.range many) d:=by
   rw [uN.out,qE.out,f9] at he;rw [qE.out,f9,show List.range many=List.range k++(List.range (many - k)).map (k + ·) from by rw [<-List.range_add];congr 1;omega,UU _ _ _ _ _ _ he]
  have l9:(Gi q many b (List.range many) d).2 ≠ 0:=by rw [<-vM];rw [uN.out] at he;exact he
  rw [if_pos l9] at a7;rw [vM] at Y O;obtain ⟨dN,eN,m0⟩:∃ dN eN,Gi q many b (List.range many) d=(dN,eN):=⟨_,_,rfl⟩;rw [m0] at Y O a7;have wL:=b2.trans J;clear he vM l9 own f9 m0
  gi_wp2
  have a3:Others W (some D'):=fun r e=>by cases e;exact ⟨_,hK,rfl⟩
  have U:=grownBy_putObj' W D' (.deferred none);have f8:(W.putObj D' (.deferred none)).cell? ⟨u,0,none⟩=some (.int .i64 eN):=a3.cell U (cell_of_one O);refine ⟨by simp, .inl ⟨_,_,rfl,run_takeDeferred hK, ?_⟩⟩;refine ⟨.int .i64 eN, ?_, ?_⟩
  ·simp [results,Tryz.f235,go_sem,f8]
  ·rw [a7.out];refine ⟨_,ext W o1,rfl, ?_,rfl,hl.kept a3 U,Y.kept a3 U⟩;exact aj.fA (wL.kept U (fun r e=>by cases e;have:=b2.size;omega)) g8
end
namespace Ad
abbrev bY:=(Ad × Af)->(Ad × Af) × Int
def oP (fs:List bY) (s:Ad × Af):Nat->Ad × Af
 | 0=>s
 | i+1=>match fs[i]? with
  | some f=>(f (oP fs s i)).1
  | none=>oP fs s i
def erN (fs:List bY) (s:Ad × Af) (i:Nat):Int:=match fs[i]? with
 | some f=>(f (oP fs s i)).2
 | none=>0
theorem LQ (fs:List bY) (s:Ad × Af):∀ (n i:Nat),i+n=fs.length->goes (oP fs s) (erN fs s) i n=steps (fs.drop i) (oP fs s i)
 | 0,i,h=>by
  rw [List.drop_eq_nil_of_le om];rfl
 | n+1,i,h=>by
  have r:i<fs.length:=om
  rw [List.drop_eq_getElem_cons r];unfold goes steps;have E:erN fs s i=(fs[i] (oP fs s i)).2:=by unfold erN;rw [List.getElem?_eq_getElem r]
  have u:oP fs s (i+1)=(fs[i] (oP fs s i)).1:=by
    conv=>lhs;unfold oP
    rw [List.getElem?_eq_getElem r]
  rw [E,u]
  by_cases q:(fs[i] (oP fs s i)).2 ≠ 0
  ·rw [if_pos q,if_pos q]
  ·rw [if_neg q,if_neg q,LQ fs s n (i+1) om,u]
theorem WH (b:List UInt8) (s:Ad × Af):(step1 b s).1=s:=by unfold step1;split <;> rfl
theorem RJ (s:Ad × Af):(head s).1.1={ s.1 with stamp:=s.1.stamp+1#64 }/\(head s).1.2.row.length<=s.2.row.length+1:=by
 unfold head;have q:=Af.Nz s.2 (s.1.first:Int) (AA.page ⟨s.1.stamp+1#64,0,0,[]⟩)
 have r:=Af.ZJ (s.2.write (s.1.first:Int) (AA.page ⟨s.1.stamp+1#64,0,0,[]⟩)).1
 dsimp only;split
 ·exact ⟨rfl,q⟩
 ·exact ⟨rfl,by dsimp only;omega⟩
theorem WG (s:Ad × Af):(step2 s).1.1.n=s.1.n/\(step2 s).1.1.end'=s.1.end'/\(step2 s).1.2.row.length<=s.2.row.length+1:=by
 unfold step2;split
 ·exact ⟨rfl,rfl,by show s.2.row.length<=_;omega⟩
 ·obtain ⟨q,r⟩:=RJ s;dsimp only;exact ⟨by rw [q],by rw [q],r⟩
theorem WF (b:List UInt8) (s:Ad × Af):(step3 b s).1.1.n=s.1.n/\(step3 b s).1.1.end'=s.1.end':=by
 unfold step3;dsimp only;split <;> exact ⟨rfl,rfl⟩
end Ad
theorem Qe (w:World) (o:Own) (e:TypeId) (vs:List Value) (n:Nat) (hn:vs.length=n) (hl:n<=1000000):sH (w.alloc (.cells vs.toArray e)) (Ak o w.heap.size (0,0)) (.slice (some ⟨w.heap.size,0,none⟩) n n) n vs:=by
 subst hn;exact SC w o e vs hl
section
variable {w:World}{o:Own}{L D p pd:Nat}{s:Ad × Af}
theorem Xt (hL:L ≠ 0) (hD:D ≠ 0) (a2:L ≠ D) (h:LD w o L D p pd s) (d1:s.2.row.length<=700000) (b:List UInt8) (bv:Value) (hb:Bytes w o bv b) (c3:capLe bv) (rF:b.length<=200000000000000) :
  Calls prog 181 #[.pointer (some ⟨p,0,none⟩),bv] w (XL (In L D) w o fun v w' o'=>v = .int .i64 (Ad.Ag b s).2/\LD w' o' L D p pd (Ad.Ag b s).1):=by
 have hN:¬ In L D 0:=fun h=>by rcases h with h | h <;> omega
 have b3:(Ad.many b:Int)=max 1 (((b.length:Int)+479) / 480):=by unfold Ad.many;omega
 have c4:Ad.many b<=1000000000000:=by unfold Ad.many;omega
 have b4:Ad.many b<=2000->b.length<=960000:=by intro h;unfold Ad.many at h;omega
 obtain ⟨many,u⟩:=az (Ad.many b);obtain ⟨E,F,rfl⟩:=Aq hb;have s1:=(aj.refl ai w o).alloc (.cells #[.pointer (some ⟨p,0,none⟩)] 162) (0,0);have bl:=Box.new w o 162 (.pointer (some ⟨p,0,none⟩));have z1:(w.alloc (.cells #[.pointer (some ⟨p,0,none⟩)] 162)).heap.size=w.heap.size+1:=by simp
 have s2:=(aj.refl ai (w.alloc (.cells #[.pointer (some ⟨p,0,none⟩)] 162)) (Ak o w.heap.size (0,0))).alloc (.cells #[.slice E b.length F] 29) (0,0);have bb:=Box.new (w.alloc (.cells #[.pointer (some ⟨p,0,none⟩)] 162)) (Ak o w.heap.size (0,0)) 29 (.slice E b.length F);rw [z1] at s2 bb;have z2:((w.alloc (.cells #[.pointer (some ⟨p,0,none⟩)] 162)).alloc (.cells #[.slice E b.length F] 29)).heap.size=w.heap.size+1+1:=by simp
 have s3:=(aj.refl ai ((w.alloc (.cells #[.pointer (some ⟨p,0,none⟩)] 162)).alloc (.cells #[.slice E b.length F] 29)) (Ak (Ak o w.heap.size (0,0)) (w.heap.size+1) (0,0))).alloc (.cells #[.int .i64 (many:Int)] 3) (0,0);have Y:=Box.new ((w.alloc (.cells #[.pointer (some ⟨p,0,none⟩)] 162)).alloc (.cells #[.slice E b.length F] 29)) (Ak (Ak o w.heap.size (0,0)) (w.heap.size+1) (0,0)) 3 (.int .i64 (many:Int));rw [z2] at s3 Y;have sT:=(s1.trans s2).trans s3;have a9:=(bl.step s2 id).step s3 id;have b1:=bb.step s3 id;have b2:=h.step sT id id id;have b5:=hb.step sT id;have i1:(b.length:Int)<=200000000000000:=om
 have zV:max 1 (((b.length:Int)+480 - 1) / 480)=(many:Int):=by rw [<-u,b3];omega
 clear s1 s2 s3 bl bb hb h z1;have a3:Hid (Calls prog 231 #[.pointer (some ⟨p,0,none⟩), .slice (some ⟨w.heap.size+1+1+1,0,none⟩) 4 4]
   ((((w.alloc (.cells #[.pointer (some ⟨p,0,none⟩)] 162)).alloc (.cells #[.slice E b.length F] 29)).alloc (.cells #[.int .i64 (many:Int)] 3)).alloc (.cells #[.func (.func 232) #[] #[.pointer (some ⟨w.heap.size+1+1,0,none⟩), .pointer (some ⟨w.heap.size,0,none⟩)], .func (.func 233) #[] #[.pointer (some ⟨w.heap.size,0,none⟩)], .func (.func 235) #[] #[.pointer (some ⟨w.heap.size,0,none⟩), .pointer (some ⟨w.heap.size+1,0,none⟩), .pointer (some ⟨w.heap.size+1+1,0,none⟩)], .func (.func 239) #[] #[.pointer (some ⟨w.heap.size,0,none⟩), .pointer (some ⟨w.heap.size+1,0,none⟩), .pointer (some ⟨w.heap.size+1+1,0,none⟩)]] 214))
   (XL (In L D) w o fun v w' o'=>v = .int .i64 (Ad.Ag b s).2/\LD w' o' L D p pd (Ad.Ag b s).1)):=by
  refine ae ?_;have z3:(((w.alloc (.cells #[.pointer (some ⟨p,0,none⟩)] 162)).alloc (.cells #[.slice E b.length F] 29)).alloc (.cells #[.int .i64 (many:Int)] 3)).heap.size=w.heap.size+1+1+1:=by simp
  generalize ((w.alloc (.cells #[.pointer (some ⟨p,0,none⟩)] 162)).alloc (.cells #[.slice E b.length F] 29)).alloc (.cells #[.int .i64 (many:Int)] 3)=W3 at *;generalize Ak (Ak (Ak o w.heap.size (0,0)) (w.heap.size+1) (0,0)) (w.heap.size+1+1) (0,0)=o3 at *;obtain ⟨r,c6⟩:=az (w.heap.size+1);obtain ⟨q,c7⟩:=az (r+1);rw [c6] at b1 Y z3 ⊢;rw [c7] at Y z3 ⊢;generalize w.heap.size=x0 at a9 ⊢;have O:=(aj.refl ai W3 o3).alloc (.cells #[.func (.func 232) #[] #[.pointer (some ⟨q,0,none⟩), .pointer (some ⟨x0,0,none⟩)], .func (.func 233) #[] #[.pointer (some ⟨x0,0,none⟩)], .func (.func 235) #[] #[.pointer (some ⟨x0,0,none⟩), .pointer (some ⟨r,0,none⟩), .pointer (some ⟨q,0,none⟩)], .func (.func 239) #[] #[.pointer (some ⟨x0,0,none⟩), .pointer (some ⟨r,0,none⟩), .pointer (some ⟨q,0,none⟩)]] 214) (0,0);have W:=Qe W3 o3 214 [.func (.func 232) #[] #[.pointer (some ⟨q,0,none⟩), .pointer (some ⟨x0,0,none⟩)], .func (.func 233) #[] #[.pointer (some ⟨x0,0,none⟩)], .func (.func 235) #[] #[.pointer (some ⟨x0,0,none⟩), .pointer (some ⟨r,0,none⟩), .pointer (some ⟨q,0,none⟩)], .func (.func 239) #[] #[.pointer (some ⟨x0,0,none⟩), .pointer (some ⟨r,0,none⟩), .pointer (some ⟨q,0,none⟩)]] 4 rfl om;rw [z3] at W;have a4:=b2.step O id id id;have b6:=b5.step O id;have b7:=a9.step O id;have b8:=b1.step O id;have b9:=Y.step O id;have xW:aj (In L D) w o _ _:=(sT.trans O).uV;rw [z3] at O a4 b6 b7 b8 b9 xW;clear W;have W:=Qe W3 o3 214 [.func (.func 232) #[] #[.pointer (some ⟨q,0,none⟩), .pointer (some ⟨x0,0,none⟩)], .func (.func 233) #[] #[.pointer (some ⟨x0,0,none⟩)], .func (.func 235) #[] #[.pointer (some ⟨x0,0,none⟩), .pointer (some ⟨r,0,none⟩), .pointer (some ⟨q,0,none⟩)], .func (.func 239) #[] #[.pointer (some ⟨x0,0,none⟩), .pointer (some ⟨r,0,none⟩), .pointer (some ⟨q,0,none⟩)]] 4 rfl om;rw [z3] at W;generalize c8:W3.alloc (.cells #[.func (.func 232) #[] #[.pointer (some ⟨q,0,none⟩), .pointer (some ⟨x0,0,none⟩)], .func (.func 233) #[] #[.pointer (some ⟨x0,0,none⟩)], .func (.func 235) #[] #[.pointer (some ⟨x0,0,none⟩), .pointer (some ⟨r,0,none⟩), .pointer (some ⟨q,0,none⟩)], .func (.func 239) #[] #[.pointer (some ⟨x0,0,none⟩), .pointer (some ⟨r,0,none⟩), .pointer (some ⟨q,0,none⟩)]] 214)=W4 at *;have c9:=W;generalize Ak o3 (q+1) (0,0)=o4 at *;clear W c8
  cases a5:(s.1.dead || s.2.dead) with
  | true =>
   have hE:Ad.Ag b s=(s,9):=by unfold Ad.Ag Ad.alive;rw [if_pos a5]
   refine (Qv a4 a5 _ _ _).mono ?_;rintro e w' ⟨v,o',rfl,J,rfl⟩;rw [hE];exact ⟨_,o',rfl,xW.trans J.uV,rfl,a4.step J id id id⟩
  | false =>
   obtain ⟨fs,U⟩:∃ fs:List Ad.bY,fs=[Ad.step1 b,Ad.step2,Ad.step3 b,Ad.step4 b]:=⟨_,rfl⟩;have hE:Ad.Ag b s=Ad.goes (Ad.oP fs s) (Ad.erN fs s) 0 4:=by
    rw [Ad.LQ fs s 4 0 (by rw [U];rfl)];unfold Ad.Ag Ad.alive;rw [if_neg (by rw [a5];simp),U];rfl
   have e1:Ad.oP fs s 1=(Ad.step1 b s).1/\Ad.erN fs s 0=(Ad.step1 b s).2:=by rw [U];exact ⟨rfl,rfl⟩
   have e2:Ad.oP fs s 2=(Ad.step2 (Ad.oP fs s 1)).1/\Ad.erN fs s 1=(Ad.step2 (Ad.oP fs s 1)).2:=by rw [U];exact ⟨rfl,rfl⟩
   have e3:Ad.oP fs s 3=(Ad.step3 b (Ad.oP fs s 2)).1/\Ad.erN fs s 2=(Ad.step3 b (Ad.oP fs s 2)).2:=by rw [U];exact ⟨rfl,rfl⟩
   have e4:Ad.oP fs s 4=(Ad.step4 b (Ad.oP fs s 3)).1/\Ad.erN fs s 3=(Ad.step4 b (Ad.oP fs s 3)).2:=by rw [U];exact ⟨rfl,rfl⟩
   clear U;have q1:Ad.oP fs s 1=s:=e1.1.trans (Ad.WH b s);have r0:Ad.erN fs s 0=0->many<=s.1.n - s.1.end':=by
    rw [e1.2];unfold Ad.step1;rw [u];intro h;split at h
    ·cases h
    ·omega
   have q2:=Ad.WG (Ad.oP fs s 1);rw [<-e2.1,q1] at q2;have q3:=Ad.WF b (Ad.oP fs s 2);rw [<-e3.1] at q3;have c0:=b2.1.wf;refine (alive_any hL hD a2 (Ad.oP fs s) (Ad.erN fs s) a4 a5 4 om _ rfl (fun i=>[232,233,235,239].getD i 0) (fun _ => #[]) (fun i=>([#[.pointer (some ⟨q,0,none⟩), .pointer (some ⟨x0,0,none⟩)], #[.pointer (some ⟨x0,0,none⟩)], #[.pointer (some ⟨x0,0,none⟩), .pointer (some ⟨r,0,none⟩), .pointer (some ⟨q,0,none⟩)], #[.pointer (some ⟨x0,0,none⟩), .pointer (some ⟨r,0,none⟩), .pointer (some ⟨q,0,none⟩)]]:List (Array Value)).getD i #[]) ?_ ?_ _ _ c9 ?_).mono ?_
   ·intro i hi;have:i=0 \/ i=1 \/ i=2 \/ i=3:=om
    rcases this with rfl | rfl | rfl | rfl <;> rfl
   ·intro i a6 x hi;have:i=0 \/ i=1 \/ i=2 \/ i=3:=om
    rcases this with rfl | rfl | rfl | rfl
    ·exact Tryz.call232 a6 x
    ·exact Tryz.call233 a6 x
    ·exact Tryz.call235 a6 x
    ·exact Tryz.call239 a6 x
   ·intro i hi hj w1 o1 a7 a8;have B0:=b7.step a7 hN;have B1:=b8.step a7 hN;have B2:=b9.step a7 hN;have Bb:=b6.step a7 hN;rw [<-u] at B2;have:i=0 \/ i=1 \/ i=2 \/ i=3:=om
    rcases this with rfl | rfl | rfl | rfl
    ·have:=Yk (s:=Ad.oP fs s 0) a8 b c4 q x0 B2 B0;show Calls prog 232 _ w1 _;rw [e1.1,e1.2];exact this
    ·have:=Yj hL hD a2 a8 (by rw [q1];omega) x0 B0;show Calls prog 233 _ w1 _;rw [e2.1,e2.2];exact this
    ·have hr:=r0 (hj 0 om);have:=Yi hL hD a2 a8 om b _ Bb c3 (by rw [q2.1,q2.2.1,u];exact hr) (b4 (by rw [u];obtain ⟨_,_,h3,_⟩:=c0;omega)) x0 r q B0 B1 B2;show Calls prog 235 _ w1 _;rw [e3.1,e3.2];exact this
    ·have hr:=r0 (hj 0 om);have:=Yh hL a2 a8 b _ Bb (by rw [q3.1,q3.2,q2.1,q2.2.1,u];exact hr) (b4 (by rw [u];obtain ⟨_,_,h3,_⟩:=c0;omega)) x0 r q B0 B1 B2;show Calls prog 239 _ w1 _;rw [e4.1,e4.2];exact this
   ·rintro e w' ⟨v,o',rfl,J,rfl,hl⟩;rw [hE];exact ⟨_,o',rfl,xW.trans J,rfl,hl⟩
 clear b2 b5 a9 b1 Y sT b3 z2
 by_cases hq:((b.length:Int)+480 - 1) / 480<=1
 rotate_left
 ·have e:((b.length:Int)+480 - 1) / 480=(many:Int):=om
  rw [<-e] at a3;clear e zV u;go_enter func181,ntmps181;go_wp2_with fail;refine a3.out.mono ?_;rintro e w' ⟨v,o',rfl,J,rfl,hl⟩;go_wp2_with fail;go_ret;exact ⟨_,o',rfl,J,rfl,hl⟩
 ·have e:(1:Int)=(many:Int):=om
  rw [<-e] at a3;clear e zV u;go_enter func181,ntmps181;go_wp2_with fail;refine a3.out.mono ?_;rintro e w' ⟨v,o',rfl,J,rfl,hl⟩;go_wp2_with fail;go_ret;exact ⟨_,o',rfl,J,rfl,hl⟩
end
section
variable {w:World}{o:Own}{L D p pd:Nat}{s:Ad × Af}
theorem Yz (E:L ≠ 0) (hD:D ≠ 0) (F:L ≠ D) (h:LD w o L D p pd s) (a9:s.2.row.length<=700000) :
  Calls prog 183 #[.pointer (some ⟨p,0,none⟩)] w (XL (In L D) w o fun v w' o'=>v = .int .i64 (Ad.reset s).2/\LD w' o' L D p pd (Ad.reset s).1):=by
 have hN:¬ In L D 0:=fun h=>by rcases h with h | h <;> omega
 have J:=(aj.refl ai w o).alloc (.cells #[.pointer (some ⟨p,0,none⟩)] 162) (0,0);have O:=Box.new w o 162 (.pointer (some ⟨p,0,none⟩));have z1:(w.alloc (.cells #[.pointer (some ⟨p,0,none⟩)] 162)).heap.size=w.heap.size+1:=by simp
 have a2:=h.step J id id id;have a5:Hid (Calls prog 231 #[.pointer (some ⟨p,0,none⟩), .slice (some ⟨w.heap.size+1,0,none⟩) 2 2]
   ((w.alloc (.cells #[.pointer (some ⟨p,0,none⟩)] 162)).alloc (.cells #[.func (.func 234) #[.pointer (some ⟨p,0,none⟩)] #[], .func (.func 240) #[] #[.pointer (some ⟨w.heap.size,0,none⟩)]] 214))
   (XL (In L D) w o fun v w' o'=>v = .int .i64 (Ad.reset s).2/\LD w' o' L D p pd (Ad.reset s).1)):=by
  refine ae ?_;generalize w.alloc (.cells #[.pointer (some ⟨p,0,none⟩)] 162)=W3 at *;generalize Ak o w.heap.size (0,0)=o3 at *;rw [<-z1];generalize w.heap.size=x0 at O ⊢;have U:=(aj.refl ai W3 o3).alloc (.cells #[.func (.func 234) #[.pointer (some ⟨p,0,none⟩)] #[], .func (.func 240) #[] #[.pointer (some ⟨x0,0,none⟩)]] 214) (0,0);have a6:=Qe W3 o3 214 [.func (.func 234) #[.pointer (some ⟨p,0,none⟩)] #[], .func (.func 240) #[] #[.pointer (some ⟨x0,0,none⟩)]] 2 rfl om;have W:=a2.step U id id id;have a7:=O.step U id;have xW:aj (In L D) w o _ _:=(J.trans U).uV
  cases u:(s.1.dead || s.2.dead) with
  | true =>
   have Y:Ad.reset s=(s,9):=by unfold Ad.reset Ad.alive;rw [if_pos u]
   refine (Qv W u _ _ _).mono ?_;rintro e w' ⟨v,o',rfl,q,rfl⟩;rw [Y];exact ⟨_,o',rfl,xW.trans q.uV,rfl,W.step q id id id⟩
  | false =>
   obtain ⟨fs,r⟩:∃ fs:List Ad.bY,fs=[Ad.head,Ad.Hr]:=⟨_,rfl⟩;have Y:Ad.reset s=Ad.goes (Ad.oP fs s) (Ad.erN fs s) 0 2:=by
    rw [Ad.LQ fs s 2 0 (by rw [r];rfl)];unfold Ad.reset Ad.alive;rw [if_neg (by rw [u];simp),r];rfl
   have e1:Ad.oP fs s 1=(Ad.head s).1/\Ad.erN fs s 0=(Ad.head s).2:=by rw [r];exact ⟨rfl,rfl⟩
   have e2:Ad.oP fs s 2=(Ad.Hr (Ad.oP fs s 1)).1/\Ad.erN fs s 1=(Ad.Hr (Ad.oP fs s 1)).2:=by rw [r];exact ⟨rfl,rfl⟩
   clear r;refine (alive_any E hD F (Ad.oP fs s) (Ad.erN fs s) W u 2 om _ rfl (fun i=>[234,240].getD i 0) (fun i=>([#[.pointer (some ⟨p,0,none⟩)], #[]]:List (Array Value)).getD i #[]) (fun i=>([#[], #[.pointer (some ⟨x0,0,none⟩)]]:List (Array Value)).getD i #[]) ?_ ?_ _ _ a6 ?_).mono ?_
   ·intro i hi;have:i=0 \/ i=1:=om
    rcases this with rfl | rfl <;> rfl
   ·intro i a3 x hi;have:i=0 \/ i=1:=om
    rcases this with rfl | rfl
    ·exact Tryz.call234 a3 x
    ·exact Tryz.call240 a3 x
   ·intro i hi hj w1 o1 a8 a4;have B0:=a7.step a8 hN;have:i=0 \/ i=1:=om
    rcases this with rfl | rfl
    ·have:=VB (s:=Ad.oP fs s 0) E hD F a4 (by show s.2.row.length<=900000;omega);show Calls prog 234 _ w1 _;rw [e1.1,e1.2];exact this
    ·have:=WS E F a4 x0 B0;show Calls prog 240 _ w1 _;rw [e2.1,e2.2];exact this
   ·rintro e w' ⟨v,o',rfl,q,rfl,hl⟩;rw [Y];exact ⟨_,o',rfl,xW.trans q,rfl,hl⟩
 clear a2 O J h z1;go_enter func183,ntmps183;go_wp2_with fail;refine a5.out.mono ?_;rintro e w' ⟨v,o',rfl,q,rfl,hl⟩;go_wp2_with fail;go_ret;exact ⟨_,o',rfl,q,rfl,hl⟩
end
def AsF (w w':World) (vs:List Value) (ls:List (List UInt8)):Prop:=vs.length=ls.length/\∀ (i:Nat) v l,vs[i]?=some v->ls[i]?=some l->w'.ownsRow w.heap.size 5 1 v l.length (bvs l)
theorem AsF.below {w w' q:World}{vs:List Value}{ls:List (List UInt8)}(h:AsF w w' vs ls) (hb:Below w'.heap.size w' q):AsF w q vs ls:=
 ⟨h.1,fun i v l hv hl=>by
  have:=h.2 i v l hv hl;refine ⟨this.1, ?_⟩
  rcases this.2 with hn | ⟨g,cap,cur,rfl,u,r,E⟩
  ·exact .inl hn
  ·exact .inr ⟨g,cap,cur,rfl,u,by rw [hb.block g (au r)];exact r,E⟩⟩
theorem AsF.snoc {w w':World}{vs:List Value}{ls:List (List UInt8)}{v:Value}{l:List UInt8}(h:AsF w w' vs ls) (hb:w'.ownsRow w.heap.size 5 1 v l.length (bvs l)):AsF w w' (vs++[v]) (ls++[l]):=by
 refine ⟨by simp [h.1],fun i u E hv hl => ?_⟩
 by_cases q:i<vs.length
 ·rw [List.getElem?_append_left q] at hv;rw [List.getElem?_append_left (by rw [<-h.1];exact q)] at hl;exact h.2 i u E hv hl
 ·rw [List.getElem?_append_right om] at hv;rw [List.getElem?_append_right (by rw [<-h.1];omega), <-h.1] at hl
  cases r:i - vs.length with
  | zero=>rw [r] at hv hl;simp at hv hl;subst hv;subst hl;exact hb
  | succ j=>rw [r] at hv;simp at hv
theorem ownsRow_base {w:World}{b b':Nat}{e:TypeId}{size n:Nat}{v:Value}{xs:List Value}(h:w.ownsRow b' e size v n xs) (hb:b<=b'):w.ownsRow b e size v n xs:=by
 refine ⟨h.1, ?_⟩
 rcases h.2 with hn | ⟨g,cap,cur,rfl,q,r⟩
 ·exact .inl hn
 ·exact .inr ⟨g,cap,cur,rfl,Nat.le_trans hb q,r⟩
theorem Ry {w:World}{o:Own}{b:Nat}{v:Value}{l:List UInt8}(h:w.ownsRow b 5 1 v l.length (bvs l)) (u:∀ k,v.ownBlock=some k->(o k).1=0):Bytes w o v l:=by
 rcases h.2 with ⟨rfl,h0⟩ | ⟨g,cap,cur,rfl,J,q,F,h4,O,r⟩
 ·exact .inl ⟨⟨_,_,rfl⟩,h0,by rw [List.eq_nil_of_length_eq_zero h0];rfl⟩
 ·refine .inr ⟨g,0,cap,rfl,F,h4,u g rfl,au q, ?_⟩;have:w.rangeAt g 0 ((cur.toList.drop 0).take l.length):=BU (w:=w) (b:=g) (cs:=cur.toList) (E:=5) (fr:=(0,0)) (by simpa using q) 0 l.length;rw [List.drop_zero] at this;rw [Nat.mul_one] at r
  rwa [r] at this
theorem We {w:World}{o:Own}{L p pd:Nat}{m:Ad}(h:BZ w o L p pd m) :
  Calls prog 124 #[.pointer (some ⟨p,0,none⟩)] w fun e w'=>∃ v vs,e = .returned v/\Below w.heap.size w w'/\w'.ownsRow w.heap.size 29 1 v m.records.length vs/\AsF w w' vs m.records:=by
 obtain ⟨g1,g2,g3,g4,g5,g6,g7⟩:=h.wf;obtain ⟨rv,vs,⟨-, -, -, -, -, -,c6, -⟩, -,a6,hv, -, -⟩:=h.open;obtain ⟨ra,rc,rfl⟩:=BA a6;have wS:=h.lt;obtain ⟨U,b3⟩:=az (m.records);rw [b3] at a6 hv g6 g7 ⊢;rw [b3] at c6;clear b3 h;have hn:U.length<=2000:=om
 have b7:∀ k x,vs[k]?=some x->∃ g,ra=some ⟨g,0,none⟩/\w.cell? ⟨g,k,none⟩=some x/\g<w.heap.size:=by
  intro k x q
  rcases a6.2 with ⟨_,h0⟩ | ⟨g,cap,cur,F,u,h3,h4,h5,h6,h7⟩
  ·have:=hv.1;have:=(List.getElem?_eq_some_iff.1 q).1;omega
  ·simp only [Value.slice.injEq] at F;refine ⟨g,F.1, ?_,au h3⟩;rw [ag (cs:=cur.toList) (E:=29) (fr:=(0,0)) (by simpa using h3)];rw [<-h7,List.getElem?_take] at q;split at q
   ·exact q
   ·cases q
 have b4:∀ k,k<U.length->∃ x l,vs[k]?=some x/\U[k]?=some l/\l.length<=960000:=fun k W=>⟨_,_,List.getElem?_eq_getElem (by have:=hv.1;omega),List.getElem?_eq_getElem W,g7 _ (List.getElem_mem W)⟩;have b8:=ae hv;have b9:∀ k l,U[k]?=some l->U.take (k+1)=U.take k++[l]:=fun k l hl=>by rw [List.take_add_one,hl];rfl
 have uZ:=ae b9;have pR:=ae (List.take_length (l:=U));clear hv a6 b9 g1 g2 g3 g4 g5 g6 g7;obtain ⟨n,b5⟩:=az (U.length);rw [b5] at pR b4 c6 hn ⊢;have f0:=ae b5;clear b5;go_enter func124,ntmps124;go_wp2_with fail
 go_loopw [3,13] (fun out i wr=>∃ k:Nat,∃ us,k<=n/\i = .int .i64 k/\wr.ownsRow w.heap.size 29 1 out k us/\AsF w wr us (U.take k)/\Below w.heap.size w wr) (fun _ i _=>n - (intOf i).toNat)
 case atStart=>exact ⟨0,[],Nat.zero_le _,rfl,World.ownsRow_nil _ _ _ _,⟨rfl,fun i v l hv _=>by simp at hv⟩,Below.refl _ _⟩
 case round =>
  obtain ⟨k,us,W,rfl,a2,a7,Y⟩:=hrel
  by_cases c0:k<n
  ·obtain ⟨x,l,q,hl,f1⟩:=b4 k c0;obtain ⟨g,rfl,hc,d8⟩:=b7 k x q;have b6:=b8.out.2 k x l q hl;obtain ⟨xa,xc,rfl⟩:=Aq b6;have f2:wr.cell? ⟨g,k,none⟩=some (.slice xa l.length xc):=by rw [World.cell?_of_block (a:=⟨g,k,none⟩) (Y.block g d8)];exact hc
   have c3:aj ai w o wr (fun k=>if k<w.heap.size then o k else (0,0)):=⟨Y.os,Y.tape,Y.output,Y.size,fun k W=>if_pos W,fun k W _=>Y.block k W⟩
   have c4:=clone_any (b6.step c3 id) om;obtain ⟨oa,oc,rfl⟩:=BA a2;have c7:=Y.size;have c8:=uZ.out k l hl;have qJ:=ae c8;have d9:=ae a7;have c9:=ae a2;clear b6 q hl b7 b4 b8 c8 c3 a7 a2 hc;go_wp2_with fail;refine c4.mono ?_;rintro e r ⟨v1,o1,rfl,d1,a8⟩;have a9:Below wr.heap.size wr r:=d1.below;obtain ⟨J,O,rfl⟩:=BA a8.1;have e0:Below w.heap.size w r:=Y.trans (a9.mono c7);have f3:=a9.size;have b1:Below r.heap.size r (r.alloc (.cells #[.slice J l.length O] 29)):=(Below.refl _ _).alloc (Nat.le_refl _) _;have d3:(r.alloc (.cells #[.slice J l.length O] 29)).heap[r.heap.size]?=some (.cells #[.slice J l.length O] 29 (0,0)):=heap_alloc_new r _;have b2:(r.alloc (.cells #[.slice J l.length O] 29)).ownsRow w.heap.size 29 1 (.slice oa k oc) k us:=by
    refine ⟨c9.out.1, ?_⟩
    rcases c9.out.2 with a3 | ⟨g',cap,cur,a4,F,u,a5⟩
    ·exact .inl a3
    ·exact .inr ⟨g',cap,cur,a4,F,by rw [b1.block g' (by have:=au u;omega),a9.block g' (au u)];exact u,a5⟩
   obtain ⟨g2,f4,w3,d4,d5,d6,e3,f5⟩:=FU (r.alloc (.cells #[.slice J l.length O] 29)) (base:=w.heap.size) (by simp;omega) _ _ _ b2 r.heap.size (.slice J l.length O) rfl (AV (cs:=[.slice J l.length O]) d3) om;have e4:Below w.heap.size w w3:=(e0.trans (b1.mono om)).grown d6 (by simp;omega) (fun k W=>(b2.lt k W).1);have d7:AsF w w3 (us++[.slice J l.length O]) (U.take (k+1)):=by
    rw [qJ.out];have e5:∀ {v:Value}{l':List UInt8},(r.alloc (.cells #[.slice J l.length O] 29)).ownsRow w.heap.size 5 1 v l'.length (bvs l')->w3.ownsRow w.heap.size 5 1 v l'.length (bvs l'):=fun {v l'} h=>by
     refine ⟨h.1, ?_⟩
     rcases h.2 with a3 | ⟨g',cap,cur,a4,F,u,a5⟩
     ·exact .inl a3
     ·refine .inr ⟨g',cap,cur,a4,F, ?_,a5⟩;rw [d6.block g' (au u)]
      ·exact u
      ·intro q
       rcases b2.2 with ⟨h3,_⟩ | ⟨g3,f6,f7,h3,_,h4,_⟩
       ·rw [h3] at q;simp [Value.ownBlock] at q
       ·rw [h3] at q;simp only [Value.ownBlock,Option.some.injEq] at q;subst q;rw [h4] at u;cases u
    have F:=(d9.out.below a9).below b1;have e6:(r.alloc (.cells #[.slice J l.length O] 29)).ownsRow w.heap.size 5 1 (.slice J l.length O) l.length (bvs l):=by
     refine ownsRow_base (b':=wr.heap.size) ?_ c7;refine ⟨a8.1.1, ?_⟩
     rcases a8.1.2 with a3 | ⟨g',cap,cur,a4,F,u,a5⟩
     ·exact .inl a3
     ·exact .inr ⟨g',cap,cur,a4,F,by rw [b1.block g' (au u)];exact u,a5⟩
    exact ⟨by simp [F.1],fun i v' l' hv hl=>e5 ((F.snoc e6).2 i v' l' hv hl)⟩
   have e7:=ae d4;have e8:=ae d5;have e9:=ae d7;clear d4 d5 d7 b2 e3 d3 c4 a8 d1
   go_wp2_with ((with_reducible apply Bl);exact e7.out;simp only [Act.put,GL,DL,lss])
   go_roundw
   case rel=>exact ⟨k+1,_,c0,by go_num,e8.out,e9.out,e4⟩
   case measure=>simp [intOf];omega
  ·obtain rfl:n=k:=om
   rw [pR.out] at a7;obtain ⟨oa,oc,rfl⟩:=BA a2;go_wp2_with fail;go_ret;exact ⟨_,us,rfl,Y,a2,a7⟩

end Go.Proofs.YtffkdillijmamaaGreat
