/- Contracts of the store's closures: what Append asks first. -/
import Derived.Test.YthmpmgknnibljaaGreatSn5
namespace Go.Proofs.YthmpmgknnibljaaGreat
set_option maxRecDepth 100000
set_option maxHeartbeats 12800000
open Go Go.RowKit
attribute [local go_sem ↓] Go.wp_at_zero Go.wp_at_succ
section
variable {w:World} {o:Own} {S A B D ps pd base:Nat} {s:AZ}
theorem WW (h:Bi w o S A B D ps pd base s) (sb:Nat) (hs:Box w o sb 42 (.pointer (some ⟨ps,0,none⟩))) (x:Ar) (bv:Value) (hbv:Bytes w o bv x.b) :
  Calls Tryz.prog 81 #[.agg #[.int .u64 (x.e.toNat:Int),bv], .pointer (some ⟨sb,0,none⟩)] w (Ret Nobody w o fun v _ _=>v = .bool (!(x.e == s.kept.current))):=by
 have s1:=(Step.refl Nobody w o).alloc (.cells #[.int .u64 (x.e.toNat:Int),bv] 36) (0,0)
 have hS2:=h.step0 s1
 have cs:=(hs.step s1 (fun h=>h)).cell
 have b1:(w.alloc (.cells #[.int .u64 (x.e.toNat:Int),bv] 36)).heap[w.heap.size]? = some (.cells [.int .u64 (x.e.toNat:Int),bv].toArray 36 (0,0)):=heap_alloc_new w _
 have c0:=cell_of_block b1 0
 simp only [List.getElem?_cons_zero] at c0
 obtain ⟨X,Y,pa,pb,k,kv, -,hb, -, -, -, -⟩:=hS2
 obtain ⟨⟨-, -, -, -, -,c7, -, -⟩, -⟩:=hb.cells
 have hst:=hidden s1.drew
 have hfin:=hidden (show ((x.e.toNat:Int) != (s.kept.current.toNat:Int)) = (!(x.e == s.kept.current)) by
  by_cases hh:x.e = s.kept.current
  ·rw [hh];simp
  ·have:¬ (x.e.toNat:Int) = (s.kept.current.toNat:Int):=fun h=>hh (BitVec.eq_of_toNat_eq (by omega))
   rw [bne_iff_ne.2 this,beq_eq_false_iff_ne.2 hh];rfl)
 obtain ⟨r,hr⟩:∃ r,(!(x.e == s.kept.current)) = r:=⟨_,rfl⟩
 rw [hr] at hfin ⊢
 obtain ⟨ba,bc,rfl⟩:=Aq hbv
 generalize s.kept.current.toNat = C at *
 generalize x.e.toNat = E at *
 generalize x.b.length = bl at *
 obtain ⟨W1,hW1⟩:∃ W1,w.alloc (.cells #[.int .u64 (E:Int), .slice ba bl bc] 36) = W1:=⟨_,rfl⟩
 rw [hW1] at hst cs c7 c0
 have hW1H:=hidden hW1
 have hS:=hidden (And.intro c0 (And.intro cs c7))
 clear hb b1 s1 hs h hW1 c0 cs c7 hr
 go_enter Tryz.func81,Tryz.ntmps81
 go_wp2_with fail
 rw [hW1H.out]
 refine Aa (fun w'=>w'.cell? ⟨w.heap.size,0,none⟩ = some (.int .u64 (E:Int))∧w'.cell? ⟨sb,0,none⟩ = some (.pointer (some ⟨ps,0,none⟩))∧w'.cell? ⟨ps,7,none⟩ = some (.int .u64 (C:Int))) (fun _=>true) (by kernel_rfl) hS.out (fun hHeld => ?_)
 refine tq 0 ?_
 refine tq 1 ?_
 refine tq 2 ?_
 refine tq 3 ?_
 refine tq 4 ?_
 refine tq 5 ?_
 refine tq 6 ?_
 refine tv 7 (.bool r) (hy:=fun w hSw=>by (try dsimp only at hSw);go_simp;exact hfin.out) (h := ?_)
 refine tq 8 ?_
 refine Ae (by kernel_rfl) ?_ _
 go_wp2_with fail
 go_ret
 exact ⟨_,_,rfl,hst.out,rfl⟩
theorem Wj (h:Bi w o S A B D ps pd base s) (sb lb lbase:Nat) (lv:Value) (ls:List Ar) (hs:Box w o sb 42 (.pointer (some ⟨ps,0,none⟩))) (hlb:Box w o lb 32 lv) (hl:Lines w o lbase lv ls) (hn:ls.length ≤ 100000) (hk:s.kept.lines.length ≤ 1000) :
  Calls Tryz.prog 80 #[.pointer (some ⟨sb,0,none⟩), .pointer (some ⟨lb,0,none⟩)] w (Ret Nobody w o fun v _ _=>v = .bool (s.kept.Eu ls)):=by
 have hmf:∀ (fn:Fn) (first cap:Array Value) (w:World),(Instr.makeFunc fn first cap).run Tryz.prog w = .ok (.func fn first cap) w:=fun _ _ _ _=>rfl
 have hgood:=hidden (VG (hl.step (Step.refl Nobody w o).drew (fun h=>h)) hn Ho)
 have htop:(Ho.toNat:Int) = 281474976710656:=by decide
 rw [htop] at hgood
 have hcont:=hidden (show ∀ w1 o1,Step Nobody w o w1 o1→Calls Tryz.prog 83 #[lv, .func (.func 81) #[] #[.pointer (some ⟨sb,0,none⟩)]] w1 (Ret Nobody w1 o1 fun v _ _=>v = .bool (ls.any fun x => !(x.e == s.kept.current))) from fun w1 o1 st =>
  Jt (hl.step st (fun h=>h)) hn 81 #[.pointer (some ⟨sb,0,none⟩)] _ Tryz.call81 (fun w2 o2 st2 x bv _ hby=>WW ((h.step0 st).step0 st2) sb ((hs.step st (fun h=>h)).step st2 (fun h=>h)) x bv hby))
 obtain ⟨X,Y,pa,pb,k,kv, -,hb,hkl, -, -, -⟩:=h
 obtain ⟨ka,kc,rfl⟩:=hkl.form
 obtain ⟨⟨-, -, -, -, -, -,c8, -⟩, -⟩:=hb.cells
 have cs:=hs.cell
 have cl:=hlb.cell
 obtain ⟨la,lc,rfl⟩:=hl.form
 unfold AX.Eu
 have hst:=hidden (Step.refl Nobody w o).drew
 have hS:=hidden (And.intro cs (And.intro cl c8))
 have hdr:=hidden (show ∀ w1 o1,Step Nobody w.drew o w1 o1→Step Nobody w o w1 o1 from fun w1 o1 st=>(Step.refl Nobody w o).drew.trans st)
 obtain ⟨r,hr⟩:∃ r,(!ls.any (badL Ho)) = r:=⟨_,rfl⟩
 obtain ⟨q,hq⟩:∃ q,(ls.any fun x => !(x.e == s.kept.current)) = q:=⟨_,rfl⟩
 rw [hr] at hgood ⊢
 rw [hq] at hcont ⊢
 generalize s.kept.lines.length = K at *
 generalize ls.length = N at *
 have hKI:(0:Int) ≤ (K:Int)∧(K:Int) ≤ 1000:=by omega
 have hNI:(0:Int) ≤ (N:Int)∧(N:Int) ≤ 100000:=by omega
 have hwr:=hidden (show IntKind.i64.wrap (256 - (K:Int)) = 256 - (K:Int) from wrap_i64 (by omega) (by omega))
 clear hb hs cs c8 cl hr hl hlb htop hq hkl
 by_cases h0:0 < N
 ·have h0I:(0:Int) < (N:Int):=by omega
  by_cases h1:N + K ≤ 256
  ·have h1I:(N:Int) ≤ 256 - (K:Int):=by omega
   cases r with
   | true =>
    have hfin:=hidden (show (decide (0 < N) && decide (N + K ≤ 256) && true && !q) = (!q) by simp [h0,h1])
    clear h0 h1
    go_enter Tryz.func80,Tryz.ntmps80
    go_wp2_with fail
    refine Aa (fun w'=>w'.cell? ⟨sb,0,none⟩ = some (.pointer (some ⟨ps,0,none⟩))∧w'.cell? ⟨lb,0,none⟩ = some (.slice la N lc)∧w'.cell? ⟨ps,8,none⟩ = some (.slice ka K kc)) (fun _=>true) (by kernel_rfl) hS.out (fun hHeld => ?_)
    refine tq 0 ?_
    refine tq 1 ?_
    refine tv 2 (.bool true) (hy:=fun w hSw=>by (try dsimp only at hSw);go_simp;all_goals omega) (h := ?_)
    refine tq 3 ?_
    refine tq 4 ?_
    refine tq 5 ?_
    refine tq 6 ?_
    refine tq 7 ?_
    refine tq 8 ?_
    refine tq 9 ?_
    refine tq 10 ?_
    refine tq 11 ?_
    refine tv 12 (.int .i64 (256 - (K:Int))) (hy:=fun w hSw=>by (try dsimp only at hSw);go_simp;exact hwr.out) (h := ?_)
    refine tv 13 (.bool true) (hy:=fun w hSw=>by (try dsimp only at hSw);go_simp;all_goals omega) (h := ?_)
    refine tv 14 (.bool true) (hy:=fun w hSw=>by (try dsimp only at hSw);go_simp;all_goals omega) (h := ?_)
    refine tq 15 ?_
    refine tq 16 ?_
    refine Ac (i:=17) rfl (by kernel_rfl) ?_
    go_wp2_with fail
    refine hgood.out.mono ?_;rintro e1 w1 ⟨v1,o1,rfl,hs1,rfl⟩
    have hS1:w1.cell? ⟨sb,0,none⟩ = some (.pointer (some ⟨ps,0,none⟩))∧w1.cell? ⟨lb,0,none⟩ = some (.slice la N lc)∧w1.cell? ⟨ps,8,none⟩ = some (.slice ka K kc):=by
     obtain ⟨k1,k2,k3⟩:=hHeld
     have hb:=fun (a:Nat) (i:Nat) (v:Value) (hc:(w.drew).cell? ⟨a,i,none⟩ = some v)=>(World.cell?_of_block (w:=w.drew) (w':=w1) (a:=⟨a,i,none⟩) (hs1.block a (World.block_lt_of_cell? (w.drew) ⟨a,i,none⟩ (by rw [hc])) (fun h=>h))).trans hc
     exact ⟨hb _ _ _ k1,hb _ _ _ k2,hb _ _ _ k3⟩
    go_wp2_with fail
    refine ⟨fun _=>hS1, ?_⟩
    refine tv 18 (.bool true) (hy:=fun w hSw=>by (try dsimp only at hSw);go_simp;all_goals omega) (h := ?_)
    refine tq 19 ?_
    refine tq 20 ?_
    refine tq 21 ?_
    refine Ac (i:=22) rfl (by kernel_rfl) ?_
    go_wp2_with fail
    refine (hcont.out w1 o1 (hdr.out _ _ hs1)).mono ?_;rintro e1 w2 ⟨v2,o2,rfl,hs2,rfl⟩
    have hS2:w2.cell? ⟨sb,0,none⟩ = some (.pointer (some ⟨ps,0,none⟩))∧w2.cell? ⟨lb,0,none⟩ = some (.slice la N lc)∧w2.cell? ⟨ps,8,none⟩ = some (.slice ka K kc):=by
     obtain ⟨k1,k2,k3⟩:=hS1
     have hb:=fun (a:Nat) (i:Nat) (v:Value) (hc:(w1).cell? ⟨a,i,none⟩ = some v)=>(World.cell?_of_block (w:=w1) (w':=w2) (a:=⟨a,i,none⟩) (hs2.block a (World.block_lt_of_cell? (w1) ⟨a,i,none⟩ (by rw [hc])) (fun h=>h))).trans hc
     exact ⟨hb _ _ _ k1,hb _ _ _ k2,hb _ _ _ k3⟩
    go_wp2_with fail
    refine ⟨fun _=>hS2, ?_⟩
    refine tv 23 (.bool (!q)) (hy:=fun w hSw=>by (try dsimp only at hSw);go_simp) (h := ?_)
    refine tv 24 (.bool (!q)) (hy:=fun w hSw=>by (try dsimp only at hSw);go_simp) (h := ?_)
    refine tq 25 ?_
    refine Ae (by kernel_rfl) ?_ _
    clear hS1
    clear hS2
    go_wp2_with fail
    go_ret
    exact ⟨_,o2,rfl,(hdr.out _ _ hs1).trans hs2,by rw [hfin.out];rfl⟩
   | false =>
    have hfin:=hidden (show (decide (0 < N) && decide (N + K ≤ 256) && false && !q) = false by simp [h0,h1])
    clear h0 h1
    go_enter Tryz.func80,Tryz.ntmps80
    go_wp2_with fail
    refine Aa (fun w'=>w'.cell? ⟨sb,0,none⟩ = some (.pointer (some ⟨ps,0,none⟩))∧w'.cell? ⟨lb,0,none⟩ = some (.slice la N lc)∧w'.cell? ⟨ps,8,none⟩ = some (.slice ka K kc)) (fun _=>true) (by kernel_rfl) hS.out (fun hHeld => ?_)
    refine tq 0 ?_
    refine tq 1 ?_
    refine tv 2 (.bool true) (hy:=fun w hSw=>by (try dsimp only at hSw);go_simp;all_goals omega) (h := ?_)
    refine tq 3 ?_
    refine tq 4 ?_
    refine tq 5 ?_
    refine tq 6 ?_
    refine tq 7 ?_
    refine tq 8 ?_
    refine tq 9 ?_
    refine tq 10 ?_
    refine tq 11 ?_
    refine tv 12 (.int .i64 (256 - (K:Int))) (hy:=fun w hSw=>by (try dsimp only at hSw);go_simp;exact hwr.out) (h := ?_)
    refine tv 13 (.bool true) (hy:=fun w hSw=>by (try dsimp only at hSw);go_simp;all_goals omega) (h := ?_)
    refine tv 14 (.bool true) (hy:=fun w hSw=>by (try dsimp only at hSw);go_simp;all_goals omega) (h := ?_)
    refine tq 15 ?_
    refine tq 16 ?_
    refine Ac (i:=17) rfl (by kernel_rfl) ?_
    go_wp2_with fail
    refine hgood.out.mono ?_;rintro e1 w1 ⟨v1,o1,rfl,hs1,rfl⟩
    have hS1:w1.cell? ⟨sb,0,none⟩ = some (.pointer (some ⟨ps,0,none⟩))∧w1.cell? ⟨lb,0,none⟩ = some (.slice la N lc)∧w1.cell? ⟨ps,8,none⟩ = some (.slice ka K kc):=by
     obtain ⟨k1,k2,k3⟩:=hHeld
     have hb:=fun (a:Nat) (i:Nat) (v:Value) (hc:(w.drew).cell? ⟨a,i,none⟩ = some v)=>(World.cell?_of_block (w:=w.drew) (w':=w1) (a:=⟨a,i,none⟩) (hs1.block a (World.block_lt_of_cell? (w.drew) ⟨a,i,none⟩ (by rw [hc])) (fun h=>h))).trans hc
     exact ⟨hb _ _ _ k1,hb _ _ _ k2,hb _ _ _ k3⟩
    go_wp2_with fail
    refine ⟨fun _=>hS1, ?_⟩
    refine tv 18 (.bool false) (hy:=fun w hSw=>by (try dsimp only at hSw);go_simp;all_goals omega) (h := ?_)
    refine tq 19 ?_
    refine ts 20 ?_
    refine ts 21 ?_
    refine ts 22 ?_
    refine ts 23 ?_
    refine tv 24 (.bool false) (hy:=fun w hSw=>by (try dsimp only at hSw);go_simp;all_goals omega) (h := ?_)
    refine tq 25 ?_
    refine Ae (by kernel_rfl) ?_ _
    clear hS1
    go_wp2_with fail
    go_ret
    exact ⟨_,o1,rfl,hdr.out _ _ hs1,by rw [hfin.out];rfl⟩
  ·have h1I:¬ (N:Int) ≤ 256 - (K:Int):=by omega
   have hfin:=hidden (show (decide (0 < N) && decide (N + K ≤ 256) && r && !q) = false by simp [h0,h1])
   clear h0 h1
   go_enter Tryz.func80,Tryz.ntmps80
   go_wp2_with fail
   refine Aa (fun w'=>w'.cell? ⟨sb,0,none⟩ = some (.pointer (some ⟨ps,0,none⟩))∧w'.cell? ⟨lb,0,none⟩ = some (.slice la N lc)∧w'.cell? ⟨ps,8,none⟩ = some (.slice ka K kc)) (fun _=>true) (by kernel_rfl) hS.out (fun hHeld => ?_)
   refine tq 0 ?_
   refine tq 1 ?_
   refine tv 2 (.bool true) (hy:=fun w hSw=>by (try dsimp only at hSw);go_simp;all_goals omega) (h := ?_)
   refine tq 3 ?_
   refine tq 4 ?_
   refine tq 5 ?_
   refine tq 6 ?_
   refine tq 7 ?_
   refine tq 8 ?_
   refine tq 9 ?_
   refine tq 10 ?_
   refine tq 11 ?_
   refine tv 12 (.int .i64 (256 - (K:Int))) (hy:=fun w hSw=>by (try dsimp only at hSw);go_simp;exact hwr.out) (h := ?_)
   refine tv 13 (.bool false) (hy:=fun w hSw=>by (try dsimp only at hSw);go_simp;all_goals omega) (h := ?_)
   refine tv 14 (.bool false) (hy:=fun w hSw=>by (try dsimp only at hSw);go_simp;all_goals omega) (h := ?_)
   refine tq 15 ?_
   refine ts 16 ?_
   refine ts 17 ?_
   refine tv 18 (.bool false) (hy:=fun w hSw=>by (try dsimp only at hSw);go_simp;all_goals omega) (h := ?_)
   refine tq 19 ?_
   refine ts 20 ?_
   refine ts 21 ?_
   refine ts 22 ?_
   refine ts 23 ?_
   refine tv 24 (.bool false) (hy:=fun w hSw=>by (try dsimp only at hSw);go_simp;all_goals omega) (h := ?_)
   refine tq 25 ?_
   refine Ae (by kernel_rfl) ?_ _
   go_wp2_with fail
   go_ret
   exact ⟨_,o,rfl,hst.out,by rw [hfin.out];rfl⟩
 ·have h0I:¬ (0:Int) < (N:Int):=by omega
  have hfin:=hidden (show (decide (0 < N) && decide (N + K ≤ 256) && r && !q) = false by simp [h0])
  clear h0
  go_enter Tryz.func80,Tryz.ntmps80
  go_wp2_with fail
  refine Aa (fun w'=>w'.cell? ⟨sb,0,none⟩ = some (.pointer (some ⟨ps,0,none⟩))∧w'.cell? ⟨lb,0,none⟩ = some (.slice la N lc)∧w'.cell? ⟨ps,8,none⟩ = some (.slice ka K kc)) (fun _=>true) (by kernel_rfl) hS.out (fun hHeld => ?_)
  refine tq 0 ?_
  refine tq 1 ?_
  refine tv 2 (.bool false) (hy:=fun w hSw=>by (try dsimp only at hSw);go_simp;all_goals omega) (h := ?_)
  refine tq 3 ?_
  refine ts 4 ?_
  refine ts 5 ?_
  refine ts 6 ?_
  refine ts 7 ?_
  refine ts 8 ?_
  refine ts 9 ?_
  refine ts 10 ?_
  refine ts 11 ?_
  refine ts 12 ?_
  refine ts 13 ?_
  refine tv 14 (.bool false) (hy:=fun w hSw=>by (try dsimp only at hSw);go_simp;all_goals omega) (h := ?_)
  refine tq 15 ?_
  refine ts 16 ?_
  refine ts 17 ?_
  refine tv 18 (.bool false) (hy:=fun w hSw=>by (try dsimp only at hSw);go_simp;all_goals omega) (h := ?_)
  refine tq 19 ?_
  refine ts 20 ?_
  refine ts 21 ?_
  refine ts 22 ?_
  refine ts 23 ?_
  refine tv 24 (.bool false) (hy:=fun w hSw=>by (try dsimp only at hSw);go_simp;all_goals omega) (h := ?_)
  refine tq 25 ?_
  refine Ae (by kernel_rfl) ?_ _
  go_wp2_with fail
  go_ret
  exact ⟨_,o,rfl,hst.out,by rw [hfin.out];rfl⟩
end
theorem Ri (S:BitVec 64):IntKind.u64.wrap ((S.toNat:Int) + 1) = ((S + 1#64).toNat:Int):=by
 rw [BitVec.toNat_add]
 simp [IntKind.wrap,IntKind.bits,IntKind.signed]
theorem Rh (S:BitVec 64):((S.toNat:Int) + 1) % 18446744073709551616 = ((S + 1#64).toNat:Int):=by
 rw [BitVec.toNat_add];simp
def AZ.write (rec:List UInt8) (now:AX) (s:AZ):AZ × Int:=
 if 0 < s.age.toNat∧rec.length ≤ s.cur.room then
  if (Ad.Ag rec (s.cur,s.d)).2 ≠ 0 then ({ s with cur:=(Ad.Ag rec (s.cur,s.d)).1.1,d:=(Ad.Ag rec (s.cur,s.d)).1.2,dead:=true },9)
  else ({ s with cur:=(Ad.Ag rec (s.cur,s.d)).1.1,d:=(Ad.Ag rec (s.cur,s.d)).1.2,kept:=now },0)
 else if 480 * (s.pages - 1) < (IY (s.age + 1#64) now.promised now.current now.lines).length then (s,4)
 else if (Ad.reset (s.oth,s.d)).2 ≠ 0 then ({ s with oth:=(Ad.reset (s.oth,s.d)).1.1,d:=(Ad.reset (s.oth,s.d)).1.2,dead:=true },9)
 else if (Ad.Ag (IY (s.age + 1#64) now.promised now.current now.lines) (Ad.reset (s.oth,s.d)).1).2 ≠ 0 then
  ({ s with oth:=(Ad.Ag (IY (s.age + 1#64) now.promised now.current now.lines) (Ad.reset (s.oth,s.d)).1).1.1,d:=(Ad.Ag (IY (s.age + 1#64) now.promised now.current now.lines) (Ad.reset (s.oth,s.d)).1).1.2,dead:=true },9)
 else ({ s with cur:=(Ad.Ag (IY (s.age + 1#64) now.promised now.current now.lines) (Ad.reset (s.oth,s.d)).1).1.1,oth:=s.cur,d:=(Ad.Ag (IY (s.age + 1#64) now.promised now.current now.lines) (Ad.reset (s.oth,s.d)).1).1.2,age:=s.age + 1#64,kept:=now },0)
theorem Ad.Yy (s:Ad × Af):(Ad.reset s).1.2.row.length ≤ s.2.row.length + 1:=by
 have h:=(Ad.RJ s).2
 unfold Ad.reset Ad.alive
 split
 ·exact Nat.le_succ _
 ·unfold Ad.steps
  split
  ·exact h
  ·unfold Ad.steps
   simp only [Ad.Hr,ne_eq,not_true_eq_false,if_false,Ad.steps]
   exact h
def Wrote (S A B D ps pd base nb:Nat) (Q:AZ × Int) (v:Value) (w':World) (o':Own):Prop:=v = .int .i64 Q.2∧Bi w' o' S A B D ps pd (if Q.2 = 0 then nb else base) Q.1
structure Qw (S A B D:Nat):Prop where
 s0:S ≠ 0
 a0:A ≠ 0
 b0:B ≠ 0
 d0:D ≠ 0
 sa:S ≠ A
 sb:S ≠ B
 sd:S ≠ D
 ab:A ≠ B
 ad:A ≠ D
 bd:B ≠ D
theorem Qw.perm {S A B D X Y:Nat} (h:Qw S A B D) (hp:(X = A∧Y = B) ∨ (X = B∧Y = A)):Qw S X Y D:=by
 obtain ⟨h1,h2,h3,h4,h5,h6,h7,h8,h9,h10⟩:=h
 rcases hp with ⟨rfl,rfl⟩ | ⟨rfl,rfl⟩
 ·exact ⟨h1,h2,h3,h4,h5,h6,h7,h8,h9,h10⟩
 ·exact ⟨h1,h3,h2,h4,h6,h5,h7,fun h=>h8 h.symm,h10,h9⟩
theorem In4.perm {S A B D X Y t:Nat} (hp:(X = A∧Y = B) ∨ (X = B∧Y = A)) (h:In4 S X Y D t):In4 S A B D t:=by
 rcases hp with ⟨rfl,rfl⟩ | ⟨rfl,rfl⟩
 ·exact h
 ·rcases h with h | h | h | h
  ·exact .inl h
  ·exact .inr (.inr (.inl h))
  ·exact .inr (.inl h)
  ·exact .inr (.inr (.inr h))
section
variable {w:World} {o:Own} {S ps pd pa pb k:Nat} {kv:Value} {s:AZ}
theorem DF.DC (h:DF w o S ps pd pa pb k kv s) (i:Nat) (v:Value):Step (Only S) w o (w.setCell ⟨ps,i,none⟩ v) o:=by
 obtain ⟨x1,x2,h1,h2,h3⟩:=h
 exact (Step.refl _ w o).setCell v (.inl (by show (o ps).1 = S;rw [h3]))
theorem DF.Ik (h:DF w o S ps pd pa pb k kv s) (b:Bool):DF (w.setCell ⟨ps,9,none⟩ (.bool b)) o S ps pd pa pb k kv { s with dead:=b }:=by
 obtain ⟨x1,x2,h1,h2,h3⟩:=h
 exact ⟨x1,x2,Ai (i:=9) _ h1,h2,h3⟩
theorem DF.swap (h:DF w o S ps pd pa pb k kv s) (age:BitVec 64):DF ((w.setCell ⟨ps,4,none⟩ (.int .i64 ((1 - k:Nat):Int))).setCell ⟨ps,5,none⟩ (.int .u64 (age.toNat:Int))) o S ps pd pb pa (1 - k) kv { s with age:=age }:=by
 obtain ⟨x1,x2,h1,h2,h3⟩:=h
 refine ⟨x1,x2,Ai (i:=5) _ (Ai (i:=4) _ h1), ?_,h3⟩
 rcases h2 with ⟨rfl,rfl,rfl⟩ | ⟨rfl,rfl,rfl⟩
 ·exact .inr ⟨rfl,rfl,rfl⟩
 ·exact .inl ⟨rfl,rfl,rfl⟩
theorem DF.SI (h:DF w o S ps pd pa pb k kv s) (now:AX) (nv:Value) (h1c:∃ a n c,nv = .slice a n c) :
  DF (w.setCells ps 6 [.int .u64 (now.promised.toNat:Int), .int .u64 (now.current.toNat:Int),nv]) o S ps pd pa pb k nv { s with kept:=now } ∧
  (Instr.storeAt 55 (.pointer (some ⟨ps,6,none⟩)) (Dy now.promised now.current nv)).run Tryz.prog w = .ok () (w.setCells ps 6 [.int .u64 (now.promised.toNat:Int), .int .u64 (now.current.toNat:Int),nv]) ∧
  Step (Only S) w o (w.setCells ps 6 [.int .u64 (now.promised.toNat:Int), .int .u64 (now.current.toNat:Int),nv]) o:=by
 obtain ⟨x1,x2,h1,h2,h3⟩:=h
 refine ⟨⟨x1,x2, ?_,h2,h3⟩, ?_,(Step.refl (Only S) w o).setCells ps 6 _ (.inl (by rw [h3];rfl))⟩
 ·exact BP ps 108 _ 6 w _ h1 (by simp [storeCells])
 ·exact run_storeAt_mid w ps 6 55 #[.int .u64 (now.promised.toNat:Int), .int .u64 (now.current.toNat:Int),nv] (Dh h1 6 3 (by simp [storeCells])) Ij (by obtain ⟨a,n,c,rfl⟩:=h1c;simp [Value.oneCell'])
end
theorem Lj {w:World} {o:Own} {S A B D ps pd base nb:Nat} {s:AZ} (ht:Qw S A B D) (h:Bi w o S A B D ps pd base s) (hrow:s.d.row.length ≤ 600000) (hpg:1 ≤ s.pages∧s.pages ≤ 4096) (rv:Value) (rec:List UInt8) (hr:Bytes w o rv rec) (hcap:capLe rv) (hr1:1 ≤ rec.length) (hr2:rec.length ≤ 4000000)
  (now:AX) (nv:Value) (hnow:Lines w o nb nv now.lines) (hsm:small now.lines) :
  Calls Tryz.prog 56 #[.pointer (some ⟨ps,0,none⟩),rv,Dy now.promised now.current nv] w (Ret (In4 S A B D) w o fun v w' o'=>Wrote S A B D ps pd base nb (s.write rec now) v w' o'):=by
 obtain ⟨X,Y,pa,pb,k,kv,hp,hb,hkl,hla,hlb,hd⟩:=h
 have hmono:∀ t,In4 S X Y D t→In4 S A B D t:=fun t=>In4.perm hp
 have hT:=ht.perm hp
 clear ht
 suffices H:Calls Tryz.prog 56 #[.pointer (some ⟨ps,0,none⟩),rv,Dy now.promised now.current nv] w (Ret (In4 S X Y D) w o fun v w' o'=>Wrote S X Y D ps pd base nb (s.write rec now) v w' o') by
  refine H.mono ?_
  rintro e w' ⟨v,o',rfl,hst,hv,X',Y',pa',pb',k',kv',hp',rest⟩
  refine ⟨v,o',rfl,hst.mono hmono,hv,X',Y',pa',pb',k',kv', ?_,rest⟩
  rcases hp with ⟨rfl,rfl⟩ | ⟨rfl,rfl⟩
  ·exact hp'
  ·exact hp'.symm
 clear hmono hp A B
 obtain ⟨na,nc,rfl⟩:=hnow.form
 obtain ⟨ra,rc,rfl⟩:=Aq hr
 have nX0:¬ In X D 0:=fun h=>by rcases h with h | h;exact hT.a0 h.symm;exact hT.d0 h.symm
 have nY0:¬ In Y D 0:=fun h=>by rcases h with h | h;exact hT.b0 h.symm;exact hT.d0 h.symm
 have nXS:¬ In X D S:=fun h=>by rcases h with h | h;exact hT.sa h;exact hT.sd h
 have nYS:¬ In Y D S:=fun h=>by rcases h with h | h;exact hT.sb h;exact hT.sd h
 have nXY:¬ In X D Y:=fun h=>by rcases h with h | h;exact hT.ab h.symm;exact hT.bd h
 have nYX:¬ In Y D X:=fun h=>by rcases h with h | h;exact hT.ab h;exact hT.ad h
 have nS0:¬ Only S 0:=fun h=>hT.s0 h.symm
 have nSX:¬ Only S X:=fun h=>hT.sa h.symm
 have nSY:¬ Only S Y:=fun h=>hT.sb h.symm
 have nSD:¬ Only S D:=fun h=>hT.sd h.symm
 have mX:∀ t,In X D t→In4 S X Y D t:=fun t h=>by rcases h with h | h;exact .inr (.inl h);exact .inr (.inr (.inr h))
 have mY:∀ t,In Y D t→In4 S X Y D t:=fun t h=>by rcases h with h | h;exact .inr (.inr (.inl h));exact .inr (.inr (.inr h))
 have mS:∀ t,Only S t→In4 S X Y D t:=fun t h => .inl h
 replace mX:=hidden mX
 replace mY:=hidden mY
 replace mS:=hidden mS
 replace hT:=hidden hT
 have nn:∀ t,¬ Nobody t:=fun _ h=>h
 obtain ⟨n1,hn1⟩:∃ n1,now.lines.length = n1:=⟨_,rfl⟩
 have s1:=(Step.refl Nobody w o).alloc (.cells #[.int .u64 (now.promised.toNat:Int), .int .u64 (now.current.toNat:Int), .slice na now.lines.length nc] 55) (0,0)
 have b1:(w.alloc (.cells #[.int .u64 (now.promised.toNat:Int), .int .u64 (now.current.toNat:Int), .slice na now.lines.length nc] 55)).heap[w.heap.size]? = some (.cells [.int .u64 (now.promised.toNat:Int), .int .u64 (now.current.toNat:Int), .slice na now.lines.length nc].toArray 55 (0,0)):=heap_alloc_new w _
 have t1:Ak o w.heap.size (0,0) w.heap.size = (0,0):=Au _ _ _
 obtain ⟨bx,hbx⟩:∃ bx,w.heap.size = bx:=⟨_,rfl⟩
 obtain ⟨W1,hW1⟩:∃ W1,w.alloc (.cells #[.int .u64 (now.promised.toNat:Int), .int .u64 (now.current.toNat:Int), .slice na now.lines.length nc] 55) = W1:=⟨_,rfl⟩
 rw [hW1] at s1 b1
 rw [hbx] at s1 b1 t1
 generalize Ak o bx (0,0) = o1 at *
 replace hb:=hb.step s1 (nn _)
 replace hkl:=hkl.step s1 (nn _)
 replace hla:=hla.step s1 (nn _) (nn _)
 replace hlb:=hlb.step s1 (nn _) (nn _)
 replace hd:=hd.step s1 (nn _)
 replace hr:=hr.step s1 (nn _)
 replace hnow:=hnow.step s1 (nn _)
 obtain ⟨⟨c0,c3,c4,c5, -, -, -,c9⟩,⟨cA,cB⟩,hfz,hk1,hpl,hpo, -⟩:=hb.cells
 have hkI:(k:Int) < 2:=by omega
 have hroomA:=hidden (UI hla)
 obtain ⟨RM,hRM⟩:∃ RM,s.cur.room = RM:=⟨_,rfl⟩
 rw [hRM] at hroomA
 obtain ⟨Q,hQ⟩:∃ Q,s.write rec now = Q:=⟨_,rfl⟩
 have hQH:=hidden hQ
 have hRMH:=hidden hRM
 have hbH:=hidden hb
 have hklH:=hidden hkl
 have hlaH:=hidden hla
 have hlbH:=hidden hlb
 have hdH:=hidden hd
 have hrH:=hidden hr
 have hnowH:=hidden hnow
 have hs1H:=hidden s1
 have hW1H:=hidden hW1
 have hbxH:=hidden hbx
 have hsmH:=hidden hsm
 have hRMI:(RM:Int) ≤ 960000:=by
  have:=hla.wf;rw [←hRM];unfold Ad.room;obtain ⟨g1,g2,g3,g4,g5,g6,g7⟩:=this;omega
 rw [hQ]
 obtain ⟨R,hR⟩:∃ R,rec.length = R:=⟨_,rfl⟩
 have hRH:=hidden hR
 rw [hR] at hr1 hr2 hcap ⊢
 have hRI:(1:Int) ≤ (R:Int)∧(R:Int) ≤ 4000000:=by omega
 have hrow2:(Ad.reset (s.oth,s.d)).1.2.row.length ≤ 700000:=by have:=Ad.Yy (s.oth,s.d);simp only at this;omega
 have hrowH:=hidden hrow2
 have hS2H:=hidden (And.intro c5 (And.intro c4 cA))
 clear hb hkl hla hlb hd hr hnow s1 hW1 hbx hsm hQ hRM hR hrow2 cA cB c0 c3 c4 c5 c9 hn1 n1
 rw [hRH.out] at hrH
 unfold Dy
 by_cases hage:0 < s.age.toNat
 ·have hageI:(0:Int) < (s.age.toNat:Int):=by omega
  by_cases hroom:R ≤ RM
  ·have hroomI:(R:Int) ≤ (RM:Int):=by omega
   have hroomP:(0:Int) < (RM:Int):=by omega
   clear hr1 hr2
   go_enter Tryz.func56,Tryz.ntmps56
   go_wp2_with fail
   rw [hW1H.out]
   refine Aa (fun w'=>w'.cell? ⟨ps,5,none⟩ = some (.int .u64 (s.age.toNat:Int))∧w'.cell? ⟨ps,4,none⟩ = some (.int .i64 (k:Int))∧w'.cell? ⟨ps,1 + k,none⟩ = some (.pointer (some ⟨pa,0,none⟩))) (fun _=>true) (by kernel_rfl) hS2H.out (fun hHeld => ?_)
   refine tq 0 ?_
   refine tq 1 ?_
   refine tq 2 ?_
   refine tq 3 ?_
   refine tv 4 (.bool true) (hy:=fun w hSw=>by (try dsimp only at hSw);go_simp;all_goals omega) (h := ?_)
   refine tq 5 ?_
   refine tq 6 ?_
   refine tq 7 ?_
   refine tq 8 ?_
   refine tq 9 ?_
   refine tq 10 ?_
   refine tq 11 ?_
   refine tq 12 ?_
   refine tq 13 ?_
   refine tq 14 ?_
   refine tq 15 ?_
   refine tq 16 ?_
   refine Ac (i:=17) rfl (by kernel_rfl) ?_
   go_wp2_with fail
   have hdr:=(Step.refl Nobody W1 o1).drew
   refine (SV (hlaH.out.step hdr (nn _) (nn _)) RM hRMH.out).mono ?_;rintro e w2 ⟨v2,o2,rfl,hs2,rfl⟩
   have hs2:Step Nobody W1 o1 w2 o2:=hdr.trans hs2
   have hS2:w2.cell? ⟨ps,5,none⟩ = some (.int .u64 (s.age.toNat:Int))∧w2.cell? ⟨ps,4,none⟩ = some (.int .i64 (k:Int))∧w2.cell? ⟨ps,1 + k,none⟩ = some (.pointer (some ⟨pa,0,none⟩)):=by
    obtain ⟨k1,k2,k3⟩:=hS2H.out
    have hb:=fun (i:Nat) (v:Value) (hc:(W1).cell? ⟨ps,i,none⟩ = some v)=>(World.cell?_of_block (w:=W1) (w':=w2) (a:=⟨ps,i,none⟩) (hs2.block ps hpl (nn _))).trans hc
    exact ⟨hb _ _ k1,hb _ _ k2,hb _ _ k3⟩
   go_wp2_with fail
   refine ⟨fun _=>hS2, ?_⟩
   refine tv 18 (.bool true) (hy:=fun w hSw=>by (try dsimp only at hSw);go_simp;all_goals omega) (h := ?_)
   refine tv 19 (.bool true) (hy:=fun w hSw=>by (try dsimp only at hSw);go_simp;all_goals omega) (h := ?_)
   refine tq 20 ?_
   refine tq 21 ?_
   refine tq 22 ?_
   refine tq 23 ?_
   refine tq 24 ?_
   refine tq 25 ?_
   refine tq 26 ?_
   refine tq 27 ?_
   refine tq 28 ?_
   refine tq 29 ?_
   refine Ac (i:=30) rfl (by kernel_rfl) ?_
   go_wp2_with fail
   refine (SV (hlaH.out.step hs2 (nn _) (nn _)) RM hRMH.out).mono ?_;rintro e w3 ⟨v3,o3,rfl,hs3,rfl⟩
   have hs3:Step Nobody W1 o1 w3 o3:=hs2.trans hs3
   have hS3:w3.cell? ⟨ps,5,none⟩ = some (.int .u64 (s.age.toNat:Int))∧w3.cell? ⟨ps,4,none⟩ = some (.int .i64 (k:Int))∧w3.cell? ⟨ps,1 + k,none⟩ = some (.pointer (some ⟨pa,0,none⟩)):=by
    obtain ⟨k1,k2,k3⟩:=hS2H.out
    have hb:=fun (i:Nat) (v:Value) (hc:(W1).cell? ⟨ps,i,none⟩ = some v)=>(World.cell?_of_block (w:=W1) (w':=w3) (a:=⟨ps,i,none⟩) (hs3.block ps hpl (nn _))).trans hc
    exact ⟨hb _ _ k1,hb _ _ k2,hb _ _ k3⟩
   go_wp2_with fail
   refine ⟨fun _=>hS3, ?_⟩
   refine tv 31 (.bool true) (hy:=fun w hSw=>by (try dsimp only at hSw);go_simp;all_goals omega) (h := ?_)
   refine tv 32 (.bool true) (hy:=fun w hSw=>by (try dsimp only at hSw);go_simp;all_goals omega) (h := ?_)
   refine Ae (by kernel_rfl) ?_ _
   have hpl3:ps < w3.heap.size:=Nat.lt_of_lt_of_le hpl hs3.size
   have hpo3:(o3 ps).1 = S:=by rw [hs3.own ps hpl];exact hpo
   have hbx3:=(hs3.block bx (lt_of_block b1) (nn _)).trans b1
   have htx3:=(hs3.own bx (lt_of_block b1)).trans t1
   have hld3:LD w3 o3 X D pa pd (s.cur,s.d):=⟨hlaH.out.step hs3 (nn _) (nn _),hdH.out.step hs3 (nn _)⟩
   have hr3:=hrH.out.step hs3 (nn _)
   obtain ⟨⟨⟨l',d'⟩,e⟩,hC⟩:∃ q,Ad.Ag rec (s.cur,s.d) = q:=⟨_,rfl⟩
   have hcm:=hidden (fun (W:World) (O:Own) (st:Step Nobody w3 o3 W O)=>NW hT.out.a0 hT.out.d0 hT.out.ad (hld3.step st (nn _) (nn _) (nn _)) (by show s.d.row.length ≤ _;omega) rec _ (hr3.step st (nn _)) hcap (by rw [hRH.out];omega) hC)
   have hQ2:Q = if e ≠ 0 then ({ s with cur:=l',d:=d',dead:=true },9) else ({ s with cur:=l',d:=d',kept:=now },0):=by
    rw [←hQH.out];unfold AZ.write;rw [hC,if_pos ⟨hage,by rw [hRH.out,hRMH.out];exact hroom⟩]
   replace hQ2:=hidden hQ2
   have hst0:=hidden ((hs1H.out.trans hs3).mono (T':=In4 S X Y D) (fun _ h=>h.elim))
   clear hS2 hHeld hld3 hr3 hC hroomA hs2
   go_wp2_with fail
   refine Aa (fun w'=>w'.cell? ⟨ps,5,none⟩ = some (.int .u64 (s.age.toNat:Int))∧w'.cell? ⟨ps,4,none⟩ = some (.int .i64 (k:Int))∧w'.cell? ⟨ps,1 + k,none⟩ = some (.pointer (some ⟨pa,0,none⟩))) (fun _=>true) (by kernel_rfl) hS3 (fun hHeld => ?_)
   refine tq 0 ?_
   refine tq 1 ?_
   refine tq 2 ?_
   refine tq 3 ?_
   refine tq 4 ?_
   refine tq 5 ?_
   refine tq 6 ?_
   refine tq 7 ?_
   refine tq 8 ?_
   refine tq 9 ?_
   refine Ac (i:=10) rfl (by kernel_rfl) ?_
   go_wp2_with fail
   have hdr:=(Step.refl Nobody w3 o3).drew
   refine (hcm.out _ o3 hdr).mono ?_;rintro e1 w4 ⟨v4,o4,rfl,hs4,rfl,hld4⟩
   have hs4:Step (In X D) w3 o3 w4 o4:=hdr.in0.trans hs4
   have hS4:w4.cell? ⟨ps,5,none⟩ = some (.int .u64 (s.age.toNat:Int))∧w4.cell? ⟨ps,4,none⟩ = some (.int .i64 (k:Int))∧w4.cell? ⟨ps,1 + k,none⟩ = some (.pointer (some ⟨pa,0,none⟩)):=by
    obtain ⟨k1,k2,k3⟩:=hS3
    have hb:=fun (i:Nat) (v:Value) (hc:(w3).cell? ⟨ps,i,none⟩ = some v)=>(World.cell?_of_block (w:=w3) (w':=w4) (a:=⟨ps,i,none⟩) (hs4.block ps hpl3 (by rw [hpo3];exact nXS))).trans hc
    exact ⟨hb _ _ k1,hb _ _ k2,hb _ _ k3⟩
   clear hHeld hcm
   go_wp2_with fail
   refine ⟨fun _=>hS4, ?_⟩
   refine tq 11 ?_
   refine Ae (by kernel_rfl) ?_ _
   have hb4:=(hbH.out.step hs3 (nn _)).step hs4 nXS
   have hkl4:=(hklH.out.step hs3 (nn _)).step hs4 nX0
   have hlb4:=(hlbH.out.step hs3 (nn _) (nn _)).step hs4 nXY nX0
   have hnow4:=(hnowH.out.step hs3 (nn _)).step hs4 nX0
   have hbx4:=(hs4.block bx (lt_of_block hbx3) (by rw [htx3];exact nX0)).trans hbx3
   have hstA:=hidden (hst0.out.trans (hs4.mono mX.out))
   clear hS4 hS3 hs4 hs3
   by_cases he:e = 0
   ·subst he
    have hQ2:Hid (Q = ({ s with cur:=l',d:=d',kept:=now },0)):=hidden (by rw [hQ2.out];rfl)
    have hlo:=hidden (show (Instr.loadAt 55 (.pointer (some ⟨w.heap.size,0,none⟩))).run Tryz.prog w4 = .ok (.agg #[.int .u64 (now.promised.toNat:Int), .int .u64 (now.current.toNat:Int), .slice na now.lines.length nc]) w4 from IM (AV (by rw [hbxH.out];exact hbx4)))
    obtain ⟨hbN,hso,hstS⟩:=hb4.SI now (.slice na now.lines.length nc) ⟨_,_,_,rfl⟩
    have hsoH:=hidden (show (Instr.storeAt 55 (.pointer (some ⟨ps,6,none⟩)) (.agg #[.int .u64 (now.promised.toNat:Int), .int .u64 (now.current.toNat:Int), .slice na now.lines.length nc])).run Tryz.prog w4 = .ok () _ from hso)
    have hF:=hidden (show Bi (w4.setCells ps 6 [.int .u64 (now.promised.toNat:Int), .int .u64 (now.current.toNat:Int), .slice na now.lines.length nc]) o4 S X Y D ps pd nb Q.1 from by rw [hQ2.out];exact ⟨X,Y,pa,pb,k,_, .inl ⟨rfl,rfl⟩,hbN,hnow4.step hstS nS0,hld4.1.step hstS nSX nS0,hlb4.step hstS nSY nS0,hld4.2.step hstS nSD⟩)
    have hstF:=hidden (hstA.out.trans (hstS.mono mS.out))
    have hQ9:=hidden (show Q.2 = 0 by rw [hQ2.out])
    clear hbN hso hstS
    go_wp2_with (first
     | ((with_reducible apply Bo);exact hlo.out;simp only [Act.put,lsa,lsz,lss])
     | ((with_reducible apply AC);exact hsoH.out;simp only [Act.put]))
    go_ret
    exact ⟨_,o4,rfl,hstF.out,by rw [hQ9.out];rfl,by (rw [if_pos hQ9.out];exact hF.out)⟩
   ·have hQ2:Hid (Q = ({ s with cur:=l',d:=d',dead:=true },9)):=hidden (by rw [hQ2.out,if_pos he])
    have heI:(e == 0) = false:=by simpa using he
    obtain ⟨⟨-, -, -, -, -, -, -,c9⟩, -,hfz9, -⟩:=hb4.cells
    have hfz9:=hfz9 9
    have hbD:=hb4.Ik true
    have hstS:=hb4.DC 9 (.bool true)
    have hF:=hidden (show Bi (w4.setCell ⟨ps,9,none⟩ (.bool true)) o4 S X Y D ps pd base Q.1 from by rw [hQ2.out];exact ⟨X,Y,pa,pb,k,kv, .inl ⟨rfl,rfl⟩,hbD,hkl4.step hstS nS0,hld4.1.step hstS nSX nS0,hlb4.step hstS nSY nS0,hld4.2.step hstS nSD⟩)
    have hstF:=hidden (hstA.out.trans (hstS.mono mS.out))
    have hQ9:=hidden (show Q.2 = 9 by rw [hQ2.out])
    clear hbD hstS
    go_wp2_with fail
    go_ret
    exact ⟨_,o4,rfl,hstF.out,by rw [hQ9.out];rfl,by (rw [if_neg (by rw [hQ9.out];omega)];exact hF.out)⟩
  ·have hroomI:¬ (R:Int) ≤ (RM:Int):=by omega
   have hno:¬ (0 < s.age.toNat∧rec.length ≤ s.cur.room):=by rw [hRH.out,hRMH.out];omega
   obtain ⟨j,hj⟩:∃ j,1 - k = j:=⟨_,rfl⟩
   have hjI:(1:Int) - (k:Int) = (j:Int):=by omega
   have hj2:(j:Int) < 2:=by omega
   obtain ⟨AE,hAE⟩:∃ AE,IY (s.age + 1#64) now.promised now.current now.lines = AE:=⟨_,rfl⟩
   have hall:=hidden (fun (W:World) (O:Own) (st:Step Nobody W1 o1 W O)=>XX (hnowH.out.step st (nn _)) (by have:=hsmH.out.1;omega) (by have:=hsmH.out.2;omega) (p:=now.promised) (c:=now.current) (s.age + 1#64))
   rw [hAE] at hall
   have hAEl:AE.length ≤ 1400000:=by
    rw [←hAE]
    have:=hsmH.out.2
    simp [IY,GR,Az];omega
   have hwa:=Ri s.age
   obtain ⟨AL,hAL⟩:∃ AL,AE.length = AL:=⟨_,rfl⟩
   rw [hAL] at hAEl
   have hALI:(0:Int) ≤ (AL:Int)∧(AL:Int) ≤ 1400000:=by omega
   have hpgI:(1:Int) ≤ (s.pages:Int)∧(s.pages:Int) ≤ 4096:=by omega
   have hAEH:=hidden hAE
   have hALH:=hidden hAL
   have hnoH:=hidden hno
   have hjH:=hidden hj
   clear hr1 hr2 hroomA hAE hAL hno hAEl hj
   go_enter Tryz.func56,Tryz.ntmps56
   go_wp2_with fail
   rw [hW1H.out]
   refine Aa (fun w'=>w'.cell? ⟨ps,5,none⟩ = some (.int .u64 (s.age.toNat:Int))∧w'.cell? ⟨ps,4,none⟩ = some (.int .i64 (k:Int))∧w'.cell? ⟨ps,1 + k,none⟩ = some (.pointer (some ⟨pa,0,none⟩))) (fun _=>true) (by kernel_rfl) hS2H.out (fun hHeld => ?_)
   refine tq 0 ?_
   refine tq 1 ?_
   refine tq 2 ?_
   refine tq 3 ?_
   refine tv 4 (.bool true) (hy:=fun w hSw=>by (try dsimp only at hSw);go_simp;all_goals omega) (h := ?_)
   refine tq 5 ?_
   refine tq 6 ?_
   refine tq 7 ?_
   refine tq 8 ?_
   refine tq 9 ?_
   refine tq 10 ?_
   refine tq 11 ?_
   refine tq 12 ?_
   refine tq 13 ?_
   refine tq 14 ?_
   refine tq 15 ?_
   refine tq 16 ?_
   refine Ac (i:=17) rfl (by kernel_rfl) ?_
   go_wp2_with fail
   have hdr:=(Step.refl Nobody W1 o1).drew
   refine (SV (hlaH.out.step hdr (nn _) (nn _)) RM hRMH.out).mono ?_;rintro e w3 ⟨v3,o3,rfl,hs3,rfl⟩
   have hs3:Step Nobody W1 o1 w3 o3:=hdr.trans hs3
   have hS3:w3.cell? ⟨ps,5,none⟩ = some (.int .u64 (s.age.toNat:Int))∧w3.cell? ⟨ps,4,none⟩ = some (.int .i64 (k:Int))∧w3.cell? ⟨ps,1 + k,none⟩ = some (.pointer (some ⟨pa,0,none⟩)):=by
    obtain ⟨k1,k2,k3⟩:=hS2H.out
    have hb:=fun (i:Nat) (v:Value) (hc:(W1).cell? ⟨ps,i,none⟩ = some v)=>(World.cell?_of_block (w:=W1) (w':=w3) (a:=⟨ps,i,none⟩) (hs3.block ps hpl (nn _))).trans hc
    exact ⟨hb _ _ k1,hb _ _ k2,hb _ _ k3⟩
   clear hHeld hdr
   go_wp2_with fail
   refine ⟨fun _=>hS3, ?_⟩
   refine tv 18 (.bool false) (hy:=fun w hSw=>by (try dsimp only at hSw);go_simp;all_goals omega) (h := ?_)
   refine tv 19 (.bool false) (hy:=fun w hSw=>by (try dsimp only at hSw);go_simp;all_goals omega) (h := ?_)
   refine tq 20 ?_
   refine ts 21 ?_
   refine ts 22 ?_
   refine ts 23 ?_
   refine ts 24 ?_
   refine ts 25 ?_
   refine ts 26 ?_
   refine ts 27 ?_
   refine ts 28 ?_
   refine ts 29 ?_
   refine ts 30 ?_
   refine ts 31 ?_
   refine tv 32 (.bool false) (hy:=fun w hSw=>by (try dsimp only at hSw);go_simp;all_goals omega) (h := ?_)
   refine Ae (by kernel_rfl) ?_ _
   have hpl3:ps < w3.heap.size:=Nat.lt_of_lt_of_le hpl hs3.size
   have hbx3:=(hs3.block bx (lt_of_block b1) (nn _)).trans b1
   have c43:=hS3.2.1
   have hS5:=hidden (And.intro hbx3 hS3.1)
   clear hS3
   rw [hbxH.out]
   go_wp2_with fail
   refine Aa (fun w'=>w'.heap[bx]? = some (.cells [.int .u64 (now.promised.toNat:Int), .int .u64 (now.current.toNat:Int), .slice na now.lines.length nc].toArray 55 (0,0))∧w'.cell? ⟨ps,5,none⟩ = some (.int .u64 (s.age.toNat:Int))) (fun _=>true) (by kernel_rfl) hS5.out (fun hHeld => ?_)
   refine Dt (i:=0) (v := .agg #[.int .u64 (now.promised.toNat:Int), .int .u64 (now.current.toNat:Int), .slice na now.lines.length nc]) rfl (by kernel_rfl) (fun _ _ _ h=>h) (yieldsIf_load_mid rfl 55 (.tmp 5) rfl bx 0 rfl [.int .u64 (now.promised.toNat:Int), .int .u64 (now.current.toNat:Int), .slice na now.lines.length nc] _ (fun w h=>AV h.1) Tryz.underlying55 rfl (by kernel_rfl)) (by assumption) ?_
   simp only [Act.put,lsa,lsz,lss]
   refine tq 1 ?_
   refine tq 2 ?_
   refine tq 3 ?_
   refine tq 4 ?_
   refine tv 5 (.int .u64 ((s.age + 1#64).toNat:Int)) (hy:=fun w hSw=>by (try dsimp only at hSw);go_simp;first | done | exact hwa | rw [hwa]) (h := ?_)
   refine Ac (i:=6) rfl (by kernel_rfl) ?_
   go_wp2_with fail
   refine (hall.out _ o3 hs3.drew).mono ?_;rintro e w4 ⟨v4,o4,rfl,hs4,hnb⟩
   have hs4:Step Nobody w3 o3 w4 o4:=(Step.refl Nobody w3 o3).drew.trans hs4
   have hbx4:=(hs4.block bx (lt_of_block hbx3) (nn _)).trans hbx3
   have hS6:=And.intro hbx4 (show w4.cell? ⟨ps,5,none⟩ = some (.int .u64 (s.age.toNat:Int)) by rw [World.cell?_of_block (w:=w3) (a:=⟨ps,5,none⟩) (hs4.block ps hpl3 (nn _))];exact hS5.out.2)
   have hcapA:=hnb.cap
   have hby:=hnb.bytes
   obtain ⟨aa,ac,rfl⟩:=Aq hby
   rw [hALH.out] at hby hcapA ⊢
   clear hHeld hnb
   go_wp2_with fail
   refine ⟨fun _=>hS6, ?_⟩
   refine tq 7 ?_
   refine Ae (by kernel_rfl) ?_ _
   have hs4:Step Nobody W1 o1 w4 o4:=hs3.trans hs4
   have hst0:=hidden ((hs1H.out.trans hs4).mono (T':=In4 S X Y D) (fun _ h=>h.elim))
   have hb4:=hbH.out.step hs4 (nn _)
   have hkl4:=hklH.out.step hs4 (nn _)
   have hla4:=hlaH.out.step hs4 (nn _) (nn _)
   have hlb4:=hlbH.out.step hs4 (nn _) (nn _)
   have hd4:=hdH.out.step hs4 (nn _)
   have hnow4:=hnowH.out.step hs4 (nn _)
   have htx4:=(hs4.own bx (lt_of_block b1)).trans t1
   obtain ⟨⟨-,d3,d4,d5, -, -, -, -⟩,⟨-,dB⟩, -⟩:=hb4.cells
   rw [hjH.out] at dB
   clear hS6 hS5 hs3 c43 hall hbx3 hpl3
   by_cases hfull:480 * (s.pages - 1) < AL
   ·have hfI:(480:Int) * ((s.pages:Int) - 1) < (AL:Int):=by omega
    have hQ2:Hid (Q = (s,4)):=hidden (by rw [←hQH.out];unfold AZ.write;rw [if_neg hnoH.out,hAEH.out,hALH.out,if_pos hfull])
    have hF:=hidden (show Bi w4 o4 S X Y D ps pd base Q.1 from by rw [hQ2.out];exact ⟨X,Y,pa,pb,k,kv, .inl ⟨rfl,rfl⟩,hb4,hkl4,hla4,hlb4,hd4⟩)
    have hQ9:=hidden (show Q.2 = 4 by rw [hQ2.out])
    clear hb4 hkl4 hla4 hlb4 hd4 hnow4
    go_wp2_with fail
    go_ret
    exact ⟨_,o4,rfl,hst0.out,by rw [hQ9.out];rfl,by rw [if_neg (by rw [hQ9.out];omega)];exact hF.out⟩
   ·have hfI:¬ (480:Int) * ((s.pages:Int) - 1) < (AL:Int):=by omega
    have hld4:LD w4 o4 Y D pb pd (s.oth,s.d):=⟨hlb4,hd4⟩
    obtain ⟨⟨⟨l1,d1⟩,e1⟩,hC1⟩:∃ q,Ad.reset (s.oth,s.d) = q:=⟨_,rfl⟩
    have hrow5:d1.row.length ≤ 700000:=by have:=hrowH.out;rw [hC1] at this;exact this
    have hrs:=hidden (UK hT.out.b0 hT.out.d0 hT.out.bd hld4 (by show s.d.row.length ≤ _;omega) hC1)
    have hQ2:Q = if e1 ≠ 0 then ({ s with oth:=l1,d:=d1,dead:=true },9) else if (Ad.Ag AE (l1,d1)).2 ≠ 0 then ({ s with oth:=(Ad.Ag AE (l1,d1)).1.1,d:=(Ad.Ag AE (l1,d1)).1.2,dead:=true },9)
      else ({ s with cur:=(Ad.Ag AE (l1,d1)).1.1,oth:=s.cur,d:=(Ad.Ag AE (l1,d1)).1.2,age:=s.age + 1#64,kept:=now },0):=by
     rw [←hQH.out];unfold AZ.write;rw [if_neg hnoH.out,hAEH.out,hALH.out,if_neg hfull,hC1]
    replace hQ2:=hidden hQ2
    clear hlb4 hd4 hld4 hC1
    go_wp2_with fail
    refine hrs.out.mono ?_;rintro e w5 ⟨v5,o5,rfl,hs5,rfl,hld5⟩
    have hpl4:ps < w4.heap.size:=Nat.lt_of_lt_of_le hpl hs4.size
    have hb5:=hb4.step hs5 nYS
    have hkl5:=hkl4.step hs5 nY0
    have hla5:=hla4.step hs5 nYX nY0
    have hnow5:=hnow4.step hs5 nY0
    have hby5:=hby.step hs5 nY0
    have hbx5:=(hs5.block bx (lt_of_block hbx4) (by rw [htx4];exact nY0)).trans hbx4
    have htx5:=(hs5.own bx (lt_of_block hbx4)).trans htx4
    have hstA:=hidden (hst0.out.trans (hs5.mono mY.out))
    obtain ⟨⟨-, -,e4,e5, -, -, -, -⟩,⟨-,eB⟩,ef, -⟩:=hb5.cells
    rw [hjH.out] at eB
    clear hb4 hkl4 hla4 hnow4 hby hrs hs5 hs4 d3 d4 d5 dB
    by_cases he1:e1 = 0
    ·subst he1
     obtain ⟨⟨⟨l2,d2⟩,e2⟩,hC2⟩:∃ q,Ad.Ag AE (l1,d1) = q:=⟨_,rfl⟩
     have hcm:=hidden (NW hT.out.b0 hT.out.d0 hT.out.bd hld5 hrow5 AE _ hby5 hcapA (by rw [hALH.out];omega) hC2)
     have hQ2:Q = if e2 ≠ 0 then ({ s with oth:=l2,d:=d2,dead:=true },9) else ({ s with cur:=l2,oth:=s.cur,d:=d2,age:=s.age + 1#64,kept:=now },0):=by
      have:=hQ2.out;rw [hC2] at this;exact this
     replace hQ2:=hidden hQ2
     clear hld5 hby5 hC2 e4 e5
     go_wp2_with fail
     refine hcm.out.mono ?_;rintro e w6 ⟨v6,o6,rfl,hs6,rfl,hld6⟩
     have hb6:=hb5.step hs6 nYS
     have hkl6:=hkl5.step hs6 nY0
     have hla6:=hla5.step hs6 nYX nY0
     have hnow6:=hnow5.step hs6 nY0
     have hbx6:=(hs6.block bx (lt_of_block hbx5) (by rw [htx5];exact nY0)).trans hbx5
     have htx6:=(hs6.own bx (lt_of_block hbx5)).trans htx5
     have hstA:=hidden (hstA.out.trans (hs6.mono mY.out))
     obtain ⟨⟨-, -,f4,f5, -, -, -, -⟩, -,ff, -⟩:=hb6.cells
     clear hb5 hkl5 hla5 hnow5 hcm hs6 eB ef
     by_cases he2:e2 = 0
     ·subst he2
      have hQ2:Hid (Q = ({ s with cur:=l2,oth:=s.cur,d:=d2,age:=s.age + 1#64,kept:=now },0)):=hidden (by rw [hQ2.out];rfl)
      have hsw:=hb6.swap (s.age + 1#64)
      have g1:=hb6.DC 4 (.int .i64 ((1 - k:Nat):Int))
      have hb61:Step (Only S) w6 o6 ((w6.setCell ⟨ps,4,none⟩ (.int .i64 ((1 - k:Nat):Int))).setCell ⟨ps,5,none⟩ (.int .u64 ((s.age + 1#64).toNat:Int))) o6:=g1.setCell (a:=⟨ps,5,none⟩) _ (.inl (by obtain ⟨_,_,_,_,q3⟩:=hb6;show (o6 ps).1 = S;rw [q3]))
      rw [hjH.out] at hsw hb61
      have hbx7:=(hb61.block bx (lt_of_block hbx6) (by rw [htx6];exact nS0)).trans hbx6
      have hkl7:=hkl6.step hb61 nS0
      have hla7:=hla6.step hb61 nSX nS0
      have hnow7:=hnow6.step hb61 nS0
      have hld7:=hld6.step hb61 nSY nSD nS0
      have hstA:=hidden (hstA.out.trans (hb61.mono mS.out))
      have ff4:=ff 4
      have ff5:=ff 5
      obtain ⟨w7,hw7⟩:∃ w7,(w6.setCell ⟨ps,4,none⟩ (.int .i64 (j:Int))).setCell ⟨ps,5,none⟩ (.int .u64 ((s.age + 1#64).toNat:Int)) = w7:=⟨_,rfl⟩
      rw [hw7] at hsw hbx7 hkl7 hla7 hnow7 hld7 hstA
      clear hb6 hkl6 hla6 hnow6 hld6 g1 hb61 ff hbx6
      have hlo:=hidden (show (Instr.loadAt 55 (.pointer (some ⟨bx,0,none⟩))).run Tryz.prog w7 = .ok (.agg #[.int .u64 (now.promised.toNat:Int), .int .u64 (now.current.toNat:Int), .slice na now.lines.length nc]) w7 from IM (AV (by exact hbx7)))
      obtain ⟨hbN,hso,hstS⟩:=hsw.SI now (.slice na now.lines.length nc) ⟨_,_,_,rfl⟩
      have hsoH:=hidden (show (Instr.storeAt 55 (.pointer (some ⟨ps,6,none⟩)) (.agg #[.int .u64 (now.promised.toNat:Int), .int .u64 (now.current.toNat:Int), .slice na now.lines.length nc])).run Tryz.prog w7 = .ok () _ from hso)
      have hF:=hidden (show Bi (w7.setCells ps 6 [.int .u64 (now.promised.toNat:Int), .int .u64 (now.current.toNat:Int), .slice na now.lines.length nc]) o6 S X Y D ps pd nb Q.1 from by rw [hQ2.out];exact ⟨Y,X,pb,pa,j,_, .inr ⟨rfl,rfl⟩,hbN,hnow7.step hstS nS0,hld7.1.step hstS nSY nS0,hla7.step hstS nSX nS0,hld7.2.step hstS nSD⟩)
      have hstF:=hidden (hstA.out.trans (hstS.mono mS.out))
      have hQ9:=hidden (show Q.2 = 0 by rw [hQ2.out])
      clear hbN hso hstS hkl7 hla7 hnow7 hld7 hsw
      have hw7H:=hidden (show (w6.setCell ⟨ps,4,none⟩ (.int .i64 (j:Int))).setCell ⟨ps,5,none⟩ (.int .u64 (((s.age.toNat:Int) + 1) % 18446744073709551616)) = w7 by rw [Rh];exact hw7)
      clear hw7
      rw [←hw7H.out] at hlo hsoH hF hstF
      go_wp2_with (first
       | ((with_reducible apply Bo);exact hlo.out;simp only [Act.put,lsa,lsz,lss])
       | ((with_reducible apply AC);exact hsoH.out;simp only [Act.put]))
      go_ret
      exact ⟨_,o6,rfl,hstF.out,by rw [hQ9.out];rfl,by (rw [if_pos hQ9.out];exact hF.out)⟩
     ·have hQ2:Hid (Q = ({ s with oth:=l2,d:=d2,dead:=true },9)):=hidden (by rw [hQ2.out,if_pos he2])
      have heI:(e2 == 0) = false:=by simpa using he2
      obtain ⟨⟨-, -, -, -, -, -, -,c9⟩, -,hfz9, -⟩:=hb6.cells
      have hfz9:=hfz9 9
      have hbD:=hb6.Ik true
      have hstS:=hb6.DC 9 (.bool true)
      have hF:=hidden (show Bi (w6.setCell ⟨ps,9,none⟩ (.bool true)) o6 S X Y D ps pd base Q.1 from by rw [hQ2.out];exact ⟨X,Y,pa,pb,k,kv, .inl ⟨rfl,rfl⟩,hbD,hkl6.step hstS nS0,hla6.step hstS nSX nS0,hld6.1.step hstS nSY nS0,hld6.2.step hstS nSD⟩)
      have hstF:=hidden (hstA.out.trans (hstS.mono mS.out))
      have hQ9:=hidden (show Q.2 = 9 by rw [hQ2.out])
      clear hbD hstS
      go_wp2_with fail
      go_ret
      exact ⟨_,o6,rfl,hstF.out,by rw [hQ9.out];rfl,by (rw [if_neg (by rw [hQ9.out];omega)];exact hF.out)⟩
    ·have hQ2:Hid (Q = ({ s with oth:=l1,d:=d1,dead:=true },9)):=hidden (by rw [hQ2.out,if_pos he1])
     have heI:(e1 == 0) = false:=by simpa using he1
     obtain ⟨⟨-, -, -, -, -, -, -,c9⟩, -,hfz9, -⟩:=hb5.cells
     have hfz9:=hfz9 9
     have hbD:=hb5.Ik true
     have hstS:=hb5.DC 9 (.bool true)
     have hF:=hidden (show Bi (w5.setCell ⟨ps,9,none⟩ (.bool true)) o5 S X Y D ps pd base Q.1 from by rw [hQ2.out];exact ⟨X,Y,pa,pb,k,kv, .inl ⟨rfl,rfl⟩,hbD,hkl5.step hstS nS0,hla5.step hstS nSX nS0,hld5.1.step hstS nSY nS0,hld5.2.step hstS nSD⟩)
     have hstF:=hidden (hstA.out.trans (hstS.mono mS.out))
     have hQ9:=hidden (show Q.2 = 9 by rw [hQ2.out])
     clear hbD hstS
     go_wp2_with fail
     go_ret
     exact ⟨_,o5,rfl,hstF.out,by rw [hQ9.out];rfl,by (rw [if_neg (by rw [hQ9.out];omega)];exact hF.out)⟩
 ·have hageI:¬ (0:Int) < (s.age.toNat:Int):=by omega
  have hno:¬ (0 < s.age.toNat∧rec.length ≤ s.cur.room):=by rw [hRH.out,hRMH.out];omega
  obtain ⟨j,hj⟩:∃ j,1 - k = j:=⟨_,rfl⟩
  have hjI:(1:Int) - (k:Int) = (j:Int):=by omega
  have hj2:(j:Int) < 2:=by omega
  obtain ⟨AE,hAE⟩:∃ AE,IY (s.age + 1#64) now.promised now.current now.lines = AE:=⟨_,rfl⟩
  have hall:=hidden (fun (W:World) (O:Own) (st:Step Nobody W1 o1 W O)=>XX (hnowH.out.step st (nn _)) (by have:=hsmH.out.1;omega) (by have:=hsmH.out.2;omega) (p:=now.promised) (c:=now.current) (s.age + 1#64))
  rw [hAE] at hall
  have hAEl:AE.length ≤ 1400000:=by
   rw [←hAE]
   have:=hsmH.out.2
   simp [IY,GR,Az];omega
  have hwa:=Ri s.age
  obtain ⟨AL,hAL⟩:∃ AL,AE.length = AL:=⟨_,rfl⟩
  rw [hAL] at hAEl
  have hALI:(0:Int) ≤ (AL:Int)∧(AL:Int) ≤ 1400000:=by omega
  have hpgI:(1:Int) ≤ (s.pages:Int)∧(s.pages:Int) ≤ 4096:=by omega
  have hAEH:=hidden hAE
  have hALH:=hidden hAL
  have hnoH:=hidden hno
  have hjH:=hidden hj
  clear hr1 hr2 hroomA hAE hAL hno hAEl hj
  go_enter Tryz.func56,Tryz.ntmps56
  go_wp2_with fail
  rw [hW1H.out]
  refine Aa (fun w'=>w'.cell? ⟨ps,5,none⟩ = some (.int .u64 (s.age.toNat:Int))∧w'.cell? ⟨ps,4,none⟩ = some (.int .i64 (k:Int))∧w'.cell? ⟨ps,1 + k,none⟩ = some (.pointer (some ⟨pa,0,none⟩))) (fun _=>true) (by kernel_rfl) hS2H.out (fun hHeld => ?_)
  refine tq 0 ?_
  refine tq 1 ?_
  refine tq 2 ?_
  refine tq 3 ?_
  refine tv 4 (.bool false) (hy:=fun w hSw=>by (try dsimp only at hSw);go_simp;all_goals omega) (h := ?_)
  refine tq 5 ?_
  refine ts 6 ?_
  refine ts 7 ?_
  refine ts 8 ?_
  refine ts 9 ?_
  refine ts 10 ?_
  refine ts 11 ?_
  refine ts 12 ?_
  refine ts 13 ?_
  refine ts 14 ?_
  refine ts 15 ?_
  refine ts 16 ?_
  refine ts 17 ?_
  refine ts 18 ?_
  refine tv 19 (.bool false) (hy:=fun w hSw=>by (try dsimp only at hSw);go_simp;all_goals omega) (h := ?_)
  refine tq 20 ?_
  refine ts 21 ?_
  refine ts 22 ?_
  refine ts 23 ?_
  refine ts 24 ?_
  refine ts 25 ?_
  refine ts 26 ?_
  refine ts 27 ?_
  refine ts 28 ?_
  refine ts 29 ?_
  refine ts 30 ?_
  refine ts 31 ?_
  refine tv 32 (.bool false) (hy:=fun w hSw=>by (try dsimp only at hSw);go_simp;all_goals omega) (h := ?_)
  refine Ae (by kernel_rfl) ?_ _
  obtain ⟨w3,hw3⟩:∃ w3,W1.drew = w3:=⟨_,rfl⟩
  obtain ⟨o3,ho3⟩:∃ o3,o1 = o3:=⟨_,rfl⟩
  have hs3:Step Nobody W1 o1 w3 o3:=by rw [←hw3, ←ho3];exact (Step.refl Nobody W1 o1).drew
  have hS3:=hHeld
  rw [hw3] at hS3 ⊢
  clear hw3 ho3 hHeld
  have hpl3:ps < w3.heap.size:=Nat.lt_of_lt_of_le hpl hs3.size
  have hbx3:=(hs3.block bx (lt_of_block b1) (nn _)).trans b1
  have c43:=hS3.2.1
  have hS5:=hidden (And.intro hbx3 hS3.1)
  clear hS3
  rw [hbxH.out]
  go_wp2_with fail
  refine Aa (fun w'=>w'.heap[bx]? = some (.cells [.int .u64 (now.promised.toNat:Int), .int .u64 (now.current.toNat:Int), .slice na now.lines.length nc].toArray 55 (0,0))∧w'.cell? ⟨ps,5,none⟩ = some (.int .u64 (s.age.toNat:Int))) (fun _=>true) (by kernel_rfl) hS5.out (fun hHeld => ?_)
  refine Dt (i:=0) (v := .agg #[.int .u64 (now.promised.toNat:Int), .int .u64 (now.current.toNat:Int), .slice na now.lines.length nc]) rfl (by kernel_rfl) (fun _ _ _ h=>h) (yieldsIf_load_mid rfl 55 (.tmp 5) rfl bx 0 rfl [.int .u64 (now.promised.toNat:Int), .int .u64 (now.current.toNat:Int), .slice na now.lines.length nc] _ (fun w h=>AV h.1) Tryz.underlying55 rfl (by kernel_rfl)) (by assumption) ?_
  simp only [Act.put,lsa,lsz,lss]
  refine tq 1 ?_
  refine tq 2 ?_
  refine tq 3 ?_
  refine tq 4 ?_
  refine tv 5 (.int .u64 ((s.age + 1#64).toNat:Int)) (hy:=fun w hSw=>by (try dsimp only at hSw);go_simp;first | done | exact hwa | rw [hwa]) (h := ?_)
  refine Ac (i:=6) rfl (by kernel_rfl) ?_
  go_wp2_with fail
  refine (hall.out _ o3 hs3.drew).mono ?_;rintro e w4 ⟨v4,o4,rfl,hs4,hnb⟩
  have hs4:Step Nobody w3 o3 w4 o4:=(Step.refl Nobody w3 o3).drew.trans hs4
  have hbx4:=(hs4.block bx (lt_of_block hbx3) (nn _)).trans hbx3
  have hS6:=And.intro hbx4 (show w4.cell? ⟨ps,5,none⟩ = some (.int .u64 (s.age.toNat:Int)) by rw [World.cell?_of_block (w:=w3) (a:=⟨ps,5,none⟩) (hs4.block ps hpl3 (nn _))];exact hS5.out.2)
  have hcapA:=hnb.cap
  have hby:=hnb.bytes
  obtain ⟨aa,ac,rfl⟩:=Aq hby
  rw [hALH.out] at hby hcapA ⊢
  clear hHeld hnb
  go_wp2_with fail
  refine ⟨fun _=>hS6, ?_⟩
  refine tq 7 ?_
  refine Ae (by kernel_rfl) ?_ _
  have hs4:Step Nobody W1 o1 w4 o4:=hs3.trans hs4
  have hst0:=hidden ((hs1H.out.trans hs4).mono (T':=In4 S X Y D) (fun _ h=>h.elim))
  have hb4:=hbH.out.step hs4 (nn _)
  have hkl4:=hklH.out.step hs4 (nn _)
  have hla4:=hlaH.out.step hs4 (nn _) (nn _)
  have hlb4:=hlbH.out.step hs4 (nn _) (nn _)
  have hd4:=hdH.out.step hs4 (nn _)
  have hnow4:=hnowH.out.step hs4 (nn _)
  have htx4:=(hs4.own bx (lt_of_block b1)).trans t1
  obtain ⟨⟨-,d3,d4,d5, -, -, -, -⟩,⟨-,dB⟩, -⟩:=hb4.cells
  rw [hjH.out] at dB
  clear hS6 hS5 hs3 c43 hall hbx3 hpl3
  by_cases hfull:480 * (s.pages - 1) < AL
  ·have hfI:(480:Int) * ((s.pages:Int) - 1) < (AL:Int):=by omega
   have hQ2:Hid (Q = (s,4)):=hidden (by rw [←hQH.out];unfold AZ.write;rw [if_neg hnoH.out,hAEH.out,hALH.out,if_pos hfull])
   have hF:=hidden (show Bi w4 o4 S X Y D ps pd base Q.1 from by rw [hQ2.out];exact ⟨X,Y,pa,pb,k,kv, .inl ⟨rfl,rfl⟩,hb4,hkl4,hla4,hlb4,hd4⟩)
   have hQ9:=hidden (show Q.2 = 4 by rw [hQ2.out])
   clear hb4 hkl4 hla4 hlb4 hd4 hnow4
   go_wp2_with fail
   go_ret
   exact ⟨_,o4,rfl,hst0.out,by rw [hQ9.out];rfl,by rw [if_neg (by rw [hQ9.out];omega)];exact hF.out⟩
  ·have hfI:¬ (480:Int) * ((s.pages:Int) - 1) < (AL:Int):=by omega
   have hld4:LD w4 o4 Y D pb pd (s.oth,s.d):=⟨hlb4,hd4⟩
   obtain ⟨⟨⟨l1,d1⟩,e1⟩,hC1⟩:∃ q,Ad.reset (s.oth,s.d) = q:=⟨_,rfl⟩
   have hrow5:d1.row.length ≤ 700000:=by have:=hrowH.out;rw [hC1] at this;exact this
   have hrs:=hidden (UK hT.out.b0 hT.out.d0 hT.out.bd hld4 (by show s.d.row.length ≤ _;omega) hC1)
   have hQ2:Q = if e1 ≠ 0 then ({ s with oth:=l1,d:=d1,dead:=true },9) else if (Ad.Ag AE (l1,d1)).2 ≠ 0 then ({ s with oth:=(Ad.Ag AE (l1,d1)).1.1,d:=(Ad.Ag AE (l1,d1)).1.2,dead:=true },9)
     else ({ s with cur:=(Ad.Ag AE (l1,d1)).1.1,oth:=s.cur,d:=(Ad.Ag AE (l1,d1)).1.2,age:=s.age + 1#64,kept:=now },0):=by
    rw [←hQH.out];unfold AZ.write;rw [if_neg hnoH.out,hAEH.out,hALH.out,if_neg hfull,hC1]
   replace hQ2:=hidden hQ2
   clear hlb4 hd4 hld4 hC1
   go_wp2_with fail
   refine hrs.out.mono ?_;rintro e w5 ⟨v5,o5,rfl,hs5,rfl,hld5⟩
   have hpl4:ps < w4.heap.size:=Nat.lt_of_lt_of_le hpl hs4.size
   have hb5:=hb4.step hs5 nYS
   have hkl5:=hkl4.step hs5 nY0
   have hla5:=hla4.step hs5 nYX nY0
   have hnow5:=hnow4.step hs5 nY0
   have hby5:=hby.step hs5 nY0
   have hbx5:=(hs5.block bx (lt_of_block hbx4) (by rw [htx4];exact nY0)).trans hbx4
   have htx5:=(hs5.own bx (lt_of_block hbx4)).trans htx4
   have hstA:=hidden (hst0.out.trans (hs5.mono mY.out))
   obtain ⟨⟨-, -,e4,e5, -, -, -, -⟩,⟨-,eB⟩,ef, -⟩:=hb5.cells
   rw [hjH.out] at eB
   clear hb4 hkl4 hla4 hnow4 hby hrs hs5 hs4 d3 d4 d5 dB
   by_cases he1:e1 = 0
   ·subst he1
    obtain ⟨⟨⟨l2,d2⟩,e2⟩,hC2⟩:∃ q,Ad.Ag AE (l1,d1) = q:=⟨_,rfl⟩
    have hcm:=hidden (NW hT.out.b0 hT.out.d0 hT.out.bd hld5 hrow5 AE _ hby5 hcapA (by rw [hALH.out];omega) hC2)
    have hQ2:Q = if e2 ≠ 0 then ({ s with oth:=l2,d:=d2,dead:=true },9) else ({ s with cur:=l2,oth:=s.cur,d:=d2,age:=s.age + 1#64,kept:=now },0):=by
     have:=hQ2.out;rw [hC2] at this;exact this
    replace hQ2:=hidden hQ2
    clear hld5 hby5 hC2 e4 e5
    go_wp2_with fail
    refine hcm.out.mono ?_;rintro e w6 ⟨v6,o6,rfl,hs6,rfl,hld6⟩
    have hb6:=hb5.step hs6 nYS
    have hkl6:=hkl5.step hs6 nY0
    have hla6:=hla5.step hs6 nYX nY0
    have hnow6:=hnow5.step hs6 nY0
    have hbx6:=(hs6.block bx (lt_of_block hbx5) (by rw [htx5];exact nY0)).trans hbx5
    have htx6:=(hs6.own bx (lt_of_block hbx5)).trans htx5
    have hstA:=hidden (hstA.out.trans (hs6.mono mY.out))
    obtain ⟨⟨-, -,f4,f5, -, -, -, -⟩, -,ff, -⟩:=hb6.cells
    clear hb5 hkl5 hla5 hnow5 hcm hs6 eB ef
    by_cases he2:e2 = 0
    ·subst he2
     have hQ2:Hid (Q = ({ s with cur:=l2,oth:=s.cur,d:=d2,age:=s.age + 1#64,kept:=now },0)):=hidden (by rw [hQ2.out];rfl)
     have hsw:=hb6.swap (s.age + 1#64)
     have g1:=hb6.DC 4 (.int .i64 ((1 - k:Nat):Int))
     have hb61:Step (Only S) w6 o6 ((w6.setCell ⟨ps,4,none⟩ (.int .i64 ((1 - k:Nat):Int))).setCell ⟨ps,5,none⟩ (.int .u64 ((s.age + 1#64).toNat:Int))) o6:=g1.setCell (a:=⟨ps,5,none⟩) _ (.inl (by obtain ⟨_,_,_,_,q3⟩:=hb6;show (o6 ps).1 = S;rw [q3]))
     rw [hjH.out] at hsw hb61
     have hbx7:=(hb61.block bx (lt_of_block hbx6) (by rw [htx6];exact nS0)).trans hbx6
     have hkl7:=hkl6.step hb61 nS0
     have hla7:=hla6.step hb61 nSX nS0
     have hnow7:=hnow6.step hb61 nS0
     have hld7:=hld6.step hb61 nSY nSD nS0
     have hstA:=hidden (hstA.out.trans (hb61.mono mS.out))
     have ff4:=ff 4
     have ff5:=ff 5
     obtain ⟨w7,hw7⟩:∃ w7,(w6.setCell ⟨ps,4,none⟩ (.int .i64 (j:Int))).setCell ⟨ps,5,none⟩ (.int .u64 ((s.age + 1#64).toNat:Int)) = w7:=⟨_,rfl⟩
     rw [hw7] at hsw hbx7 hkl7 hla7 hnow7 hld7 hstA
     clear hb6 hkl6 hla6 hnow6 hld6 g1 hb61 ff hbx6
     have hlo:=hidden (show (Instr.loadAt 55 (.pointer (some ⟨bx,0,none⟩))).run Tryz.prog w7 = .ok (.agg #[.int .u64 (now.promised.toNat:Int), .int .u64 (now.current.toNat:Int), .slice na now.lines.length nc]) w7 from IM (AV (by exact hbx7)))
     obtain ⟨hbN,hso,hstS⟩:=hsw.SI now (.slice na now.lines.length nc) ⟨_,_,_,rfl⟩
     have hsoH:=hidden (show (Instr.storeAt 55 (.pointer (some ⟨ps,6,none⟩)) (.agg #[.int .u64 (now.promised.toNat:Int), .int .u64 (now.current.toNat:Int), .slice na now.lines.length nc])).run Tryz.prog w7 = .ok () _ from hso)
     have hF:=hidden (show Bi (w7.setCells ps 6 [.int .u64 (now.promised.toNat:Int), .int .u64 (now.current.toNat:Int), .slice na now.lines.length nc]) o6 S X Y D ps pd nb Q.1 from by rw [hQ2.out];exact ⟨Y,X,pb,pa,j,_, .inr ⟨rfl,rfl⟩,hbN,hnow7.step hstS nS0,hld7.1.step hstS nSY nS0,hla7.step hstS nSX nS0,hld7.2.step hstS nSD⟩)
     have hstF:=hidden (hstA.out.trans (hstS.mono mS.out))
     have hQ9:=hidden (show Q.2 = 0 by rw [hQ2.out])
     clear hbN hso hstS hkl7 hla7 hnow7 hld7 hsw
     have hw7H:=hidden (show (w6.setCell ⟨ps,4,none⟩ (.int .i64 (j:Int))).setCell ⟨ps,5,none⟩ (.int .u64 (((s.age.toNat:Int) + 1) % 18446744073709551616)) = w7 by rw [Rh];exact hw7)
     clear hw7
     rw [←hw7H.out] at hlo hsoH hF hstF
     go_wp2_with (first
      | ((with_reducible apply Bo);exact hlo.out;simp only [Act.put,lsa,lsz,lss])
      | ((with_reducible apply AC);exact hsoH.out;simp only [Act.put]))
     go_ret
     exact ⟨_,o6,rfl,hstF.out,by rw [hQ9.out];rfl,by (rw [if_pos hQ9.out];exact hF.out)⟩
    ·have hQ2:Hid (Q = ({ s with oth:=l2,d:=d2,dead:=true },9)):=hidden (by rw [hQ2.out,if_pos he2])
     have heI:(e2 == 0) = false:=by simpa using he2
     obtain ⟨⟨-, -, -, -, -, -, -,c9⟩, -,hfz9, -⟩:=hb6.cells
     have hfz9:=hfz9 9
     have hbD:=hb6.Ik true
     have hstS:=hb6.DC 9 (.bool true)
     have hF:=hidden (show Bi (w6.setCell ⟨ps,9,none⟩ (.bool true)) o6 S X Y D ps pd base Q.1 from by rw [hQ2.out];exact ⟨X,Y,pa,pb,k,kv, .inl ⟨rfl,rfl⟩,hbD,hkl6.step hstS nS0,hla6.step hstS nSX nS0,hld6.1.step hstS nSY nS0,hld6.2.step hstS nSD⟩)
     have hstF:=hidden (hstA.out.trans (hstS.mono mS.out))
     have hQ9:=hidden (show Q.2 = 9 by rw [hQ2.out])
     clear hbD hstS
     go_wp2_with fail
     go_ret
     exact ⟨_,o6,rfl,hstF.out,by rw [hQ9.out];rfl,by (rw [if_neg (by rw [hQ9.out];omega)];exact hF.out)⟩
   ·have hQ2:Hid (Q = ({ s with oth:=l1,d:=d1,dead:=true },9)):=hidden (by rw [hQ2.out,if_pos he1])
    have heI:(e1 == 0) = false:=by simpa using he1
    obtain ⟨⟨-, -, -, -, -, -, -,c9⟩, -,hfz9, -⟩:=hb5.cells
    have hfz9:=hfz9 9
    have hbD:=hb5.Ik true
    have hstS:=hb5.DC 9 (.bool true)
    have hF:=hidden (show Bi (w5.setCell ⟨ps,9,none⟩ (.bool true)) o5 S X Y D ps pd base Q.1 from by rw [hQ2.out];exact ⟨X,Y,pa,pb,k,kv, .inl ⟨rfl,rfl⟩,hbD,hkl5.step hstS nS0,hla5.step hstS nSX nS0,hld5.1.step hstS nSY nS0,hld5.2.step hstS nSD⟩)
    have hstF:=hidden (hstA.out.trans (hstS.mono mS.out))
    have hQ9:=hidden (show Q.2 = 9 by rw [hQ2.out])
    clear hbD hstS
    go_wp2_with fail
    go_ret
    exact ⟨_,o5,rfl,hstF.out,by rw [hQ9.out];rfl,by (rw [if_neg (by rw [hQ9.out];omega)];exact hF.out)⟩
theorem Qb (w:World) (n:Nat) (hn:n ≤ 100000):grownCap w n 0 36 ≤ maxLen:=grownCap_le_maxLen w n 0 36 (by simp only [maxLen];omega)
theorem YX (n:Nat) (hn:n ≤ 100000) (w:World):Calls Tryz.prog 136 #[.slice none 0 0, .int .i64 (n:Int)] w fun e w'=>∃ v,e = .returned v∧w.grownBy w' none∧w'.ownsRow w.heap.size 36 2 v 0 []:=by
 by_cases h0:n = 0
 ·subst h0
  go_enter Tryz.func136,Tryz.ntmps136
  go_wp2_with fail
  go_ret
  exact ⟨_,rfl,⟨rfl,rfl,rfl,Nat.le_refl _,fun _ _ _=>rfl⟩,World.ownsRow_nil _ _ _ _⟩
 ·obtain ⟨i,z,hq,hz,e2,e3,e4⟩:=TQ TR
  have hold:(Builtin.firstCells i.size 0 (.slice none 0 0)).run Tryz.prog w.drew = .ok ([]:List Value).toArray w.drew:=run_firstCells_none w.drew i.size 0 0 0
  have hr:=Lib.run_append_grow_zeros (P:=Tryz.prog) w 32 3 32 36 i z .i64 .i64 Tryz.underlying32 Tryz.underlying3 hq hz none 0 0 [] hold n (by omega) (by omega) (by omega) (by omega) (by rw [e3];omega)
   (by rw [e3];rw [nextslicecap_zero (by omega)];omega)
  rw [Nat.zero_add] at hr
  have hG:=grownCap_ge w n 0 36
  have hG2:=Qb w n hn
  have hcur:(([]:List Value).toArray ++ Builtin.zeroCells z.cells n ++ Builtin.zeroCells z.cells (grownCap w n 0 36 - n)).size = grownCap w n 0 36 * 2:=by
   have hz2:z.cells.size = 2:=by rw [e4];rfl
   simp only [Array.size_append,List.size_toArray,List.length_nil,size_zeroCells,hz2]
   omega
  have hown:=World.ownsRow_made (e:=36) (size:=2) (base:=w.heap.size) w.drew _ _ (Nat.le_refl _) hG2 hcur
  have hgr:=World.grownBy_alloc w.drew (.cells (([]:List Value).toArray ++ Builtin.zeroCells z.cells n ++ Builtin.zeroCells z.cells (grownCap w n 0 36 - n)) 36) none
  generalize hGe:grownCap w n 0 36 = G at *
  generalize hW:w.drew.alloc (.cells (([]:List Value).toArray ++ Builtin.zeroCells z.cells n ++ Builtin.zeroCells z.cells (G - n)) 36) = W at *
  have hrunH:=hidden hr
  have hG3:(G:Int) ≤ 9223372036854775807:=by simp only [maxLen] at hG2;omega
  have hpos:0 < (n:Int):=by omega
  clear hr hold hcur hGe hW hq hz e2 e3 e4 hG2
  go_enter Tryz.func136,Tryz.ntmps136
  go_wp2_with ((with_reducible apply Bl);exact hrunH.out;simp only [Act.put,lsa,lsz,lss])
  go_ret
  exact ⟨_,rfl,⟨hgr.os,hgr.tape,hgr.output,hgr.size,hgr.block⟩,hown⟩
theorem VU {w:World} {o:Own} {v:Value} {vs:List Value} {ns:List Nat} {css:List (List Value)} (hv:Slc w o v vs.length vs)
  (hr:∀ k,k < vs.length→∃ x n cs,vs[k]? = some x∧ns[k]? = some n∧css[k]? = some cs∧Slc w o x n cs∧cs.length = n * 2∧∀ u ∈ cs,u.oneCell' = true)
  (hns:ns.length = vs.length) (hcs:css.length = vs.length) (htot:∀ k,(ns.take k).sum ≤ 100000) (hmany:vs.length ≤ 1000000) :
  Calls Tryz.prog 84 #[v] w (Ret Nobody w o fun v w' o'=>w'.ownsRow w.heap.size 36 2 v ns.sum css.flatten∧o' = ext w o):=by
 obtain ⟨a,c,rfl⟩:=Aq hv
 have hsn:∀ k n cs,ns[k]? = some n→css[k]? = some cs→(ns.take (k + 1)).sum = (ns.take k).sum + n∧(css.take (k + 1)).flatten = (css.take k).flatten ++ cs:=fun k n cs h1 h2=>by
  rw [List.take_add_one,h1,List.take_add_one,h2];simp
 have hall:ns.take vs.length = ns∧css.take vs.length = css:=⟨List.take_of_length_le (by omega),List.take_of_length_le (by omega)⟩
 have hallH:=hidden hall
 have hrH:=hidden hr
 have hsnH:=hidden hsn
 have htH:=hidden htot
 clear hall hr hns hcs hsn htot
 generalize hmm:vs.length = m at *
 clear hmm
 obtain ⟨tl,htl⟩:∃ tl:Nat→Nat,∀ k,tl k = (ns.take k).sum:=⟨_,fun _=>rfl⟩
 have htlH:=hidden htl
 clear htl
 go_enter Tryz.func84,Tryz.ntmps84
 go_wp2_with fail
 go_loop [3,11] (fun n i=>∃ k:Nat,k ≤ m∧i = .int .i64 k∧n = .int .i64 (tl k:Int)) (fun _ i=>m - (intOf i).toNat)
 case atStart=>exact ⟨0,Nat.zero_le _,rfl,by rw [htlH.out];rfl⟩
 case round =>
  obtain ⟨k,hk,rfl,rfl⟩:=hrel
  by_cases hlt:k < m
  ·obtain ⟨x,n,cs,hx,hn,hc0,hsl, -, -⟩:=hrH.out k hlt
   obtain ⟨b,off,rfl,hc,hbl,hbo⟩:=hv.cell k hx
   obtain ⟨xa,xc,rfl⟩:=Aq hsl
   have hlen:(tl (k + 1):Int) = (tl k:Int) + (n:Int):=by rw [htlH.out,htlH.out,(hsnH.out k n cs hn hc0).1];omega
   have hb1:tl (k + 1) ≤ 100000:=by rw [htlH.out];exact htH.out (k + 1)
   have hb2:tl k ≤ 100000:=by rw [htlH.out];exact htH.out k
   have hlenH:=hidden hlen
   have hb3:(tl k:Int) + (n:Int) ≤ 100000:=by omega
   clear hlen hb1 hx hn hc0 hsl hv hrH hsnH hallH
   generalize tl k = N at *
   go_wp2_with fail
   go_round
   case rel=>exact ⟨k + 1,hlt,by go_num,by rw [hlenH.out]⟩
   case measure=>simp [intOf];omega
  ·obtain rfl:m = k:=by omega
   have hg:=YX (tl m) (by rw [htlH.out];exact htH.out m) w
   go_wp2_with fail
   refine hg.mono ?_;rintro e w1 ⟨v1,rfl,hg1,hown1⟩
   have hbel:Below w.heap.size w w1:=⟨hg1.os,hg1.tape,hg1.output,hg1.size,fun k hk=>hg1.block k hk (by simp)⟩
   clear hg
   obtain ⟨a1,c1,rfl⟩:=BA hown1
   go_wp2_with fail
   go_loopw [6,27] (fun out i wr=>∃ k:Nat,k ≤ m∧i = .int .i64 k∧wr.ownsRow w.heap.size 36 2 out (tl k) (css.take k).flatten∧Below w.heap.size w wr) (fun _ i _=>m - (intOf i).toNat)
   case atStart=>exact ⟨0,Nat.zero_le _,rfl,by rw [htlH.out];simpa using hown1,hbel⟩
   case round =>
    clear hown1 hbel hg1
    obtain ⟨k,hk,rfl,hown,hbel⟩:=hrel
    by_cases hlt:k < m
    ·obtain ⟨x,n,cs,hx,hn,hc0,hsl,hcl,hone⟩:=hrH.out k hlt
     obtain ⟨b,off,rfl,hc,hbl,hbo⟩:=hv.cell k hx
     have hc2:wr.cell? ⟨b,off + k,none⟩ = some x:=by rw [World.cell?_of_block (a:=⟨b,off + k,none⟩) (hbel.block b hbl)];exact hc
     obtain ⟨hs1,hs2⟩:=hsnH.out k n cs hn hc0
     rw [←htlH.out, ←htlH.out] at hs1
     have hb1:tl (k + 1) ≤ 100000:=by rw [htlH.out];exact htH.out (k + 1)
     have hsize:=hbel.size
     obtain ⟨oa,oc,rfl⟩:=BA hown
     have hcap:tl k ≤ oc∧oc ≤ maxLen:=by
      rcases hown.2 with ⟨h1,h2⟩ | ⟨g,cap,cur,h1,_,_,h2,h3,_⟩
      ·simp only [Value.slice.injEq] at h1;omega
      ·simp only [Value.slice.injEq] at h1;omega
     by_cases hm0:n = 0
     ·subst hm0
      have hcs0:cs = []:=List.eq_nil_of_length_eq_zero (by omega)
      subst hcs0
      obtain ⟨xa,xc,rfl⟩:=Aq hsl
      rw [List.append_nil] at hs2
      rw [Nat.add_zero] at hs1
      have hap:=CB (P:=Tryz.prog) wr 32 32 36 2 Tryz.underlying32 (by kernel_rfl) oa xa (tl k) oc xc hcap.1 (by omega)
      have hapH:=hidden hap
      have hsH:=hidden (And.intro hs1 hs2)
      have hownH:=hidden hown
      clear hap hs1 hs2 hown hx hn hc0 hsl hv hrH hsnH hallH hb1 hcap hone hcl htH htlH
      go_wp2_with ((with_reducible apply Bl);exact hapH.out;simp only [Act.put,lsa,lsz,lss])
      go_roundw
      case rel=>exact ⟨k + 1,hlt,by go_num,by rw [hsH.out.1,hsH.out.2];exact hownH.out,hbel⟩
      case measure=>simp [intOf];omega
     ·rcases hsl with ⟨_,h0,_⟩ | ⟨xb,xoff,xcap,rfl,hxl,hxm,hxo,hxb,hxr⟩
      ·exact absurd h0 hm0
      ·have hxr2:wr.rangeAt xb xoff cs:=Cf hxr (hbel.block xb hxb)
       obtain ⟨g,cap,w3,hrun,hown3,hgrow,hat,hlt3⟩:=DD (P:=Tryz.prog) wr 32 32 36 Tryz.underlying32 TR rfl (by omega) (base:=w.heap.size) hsize _ (tl k) _ hown xb xoff n xcap cs hcl hxr2 hone (by omega) (by omega) (by omega)
       have hb3:Below w.heap.size w w3:=hbel.grown hgrow hbel.size (fun k hk=>(hown.lt k hk).1)
       rw [←hs1, ←hs2] at hown3
       rw [←hs1] at hrun
       have hrunH:=hidden hrun
       have hownH:=hidden hown3
       clear hrun hown3 hown hs1 hs2 hx hn hc0 hv hrH hsnH hallH hb1 hcap hone hcl hxr hxr2 hat htH htlH
       go_wp2_with ((with_reducible apply Bl);exact hrunH.out;simp only [Act.put,lsa,lsz,lss])
       go_roundw
       case rel=>exact ⟨k + 1,hlt,by go_num,hownH.out,hb3⟩
       case measure=>simp [intOf];omega
    ·obtain rfl:m = k:=by omega
     have hEq:tl m = ns.sum:=by rw [htlH.out,hallH.out.1]
     rw [hallH.out.2,hEq] at hown
     have hownH:=hidden hown
     clear hEq hown
     obtain ⟨oa,oc,rfl⟩:=BA hownH.out
     go_wp2_with fail
     go_ret
     exact ⟨_,ext w o,rfl,⟨hbel.os,hbel.tape,hbel.output,hbel.size,fun k hk=>if_pos hk,fun k hk _=>hbel.block k hk⟩,hownH.out,rfl⟩
def AZ.promise (e:BitVec 64) (s:AZ):AZ × Int:=
 if s.dead || s.d.dead then (s,9) else if s.kept.EK e then s.write (2 :: be 8 e) { s.kept with promised:=e } else (s,1)
def AZ.FO (e:BitVec 64) (ls:List Ar) (s:AZ):AZ × Int:=
 if s.dead || s.d.dead then (s,9) else if s.kept.Gg e ls then s.write (3 :: (be 8 e ++ GR ls)) ⟨e,e,ls⟩ else (s,1)
def AZ.append (ls:List Ar) (s:AZ):AZ × Int:=
 if s.dead || s.d.dead then (s,9) else if s.kept.Eu ls then s.write (4 :: GR ls) { s.kept with lines:=s.kept.lines ++ ls } else (s,1)
theorem Wrote.same {w:World} {o:Own} {S A B D ps pd base nb:Nat} {s:AZ} {v:Value} {e:Int} (h:Bi w o S A B D ps pd base s) (hv:v = .int .i64 e) (he:e ≠ 0):Wrote S A B D ps pd base nb (s,e) v w o:=
 ⟨hv,by rw [if_neg he];exact h⟩
theorem Bi.box {w:World} {o:Own} {S A B D ps pd base:Nat} {s:AZ} (h:Bi w o S A B D ps pd base s) :
  ∃ kv,Lines w o base kv s.kept.lines∧w.rangeAt ps 6 [.int .u64 (s.kept.promised.toNat:Int), .int .u64 (s.kept.current.toNat:Int),kv]:=by
 obtain ⟨X,Y,pa,pb,k,kv, -,hb,hl, -, -, -⟩:=h
 obtain ⟨-, -, -, -, -, -,hr⟩:=hb.cells
 exact ⟨kv,hl,hr⟩
theorem Tv {S A B D:Nat}:∀ t,Only (S + A + B + D + 1) t→t ≠ 0∧¬ In4 S A B D t:=fun t h=>by
 change t = _ at h
 subst h
 exact ⟨by omega,fun h=>by rcases h with h | h | h | h <;> omega⟩
theorem aU {S A B D:Nat} (ht:Qw S A B D):¬ In4 S A B D 0:=fun h=>by
 rcases h with h | h | h | h
 ·exact ht.s0 h.symm
 ·exact ht.a0 h.symm
 ·exact ht.b0 h.symm
 ·exact ht.d0 h.symm
theorem SA {w:World} {o:Own} {S A B D ps pd base:Nat} {s:AZ} (ht:Qw S A B D) (h:Bi w o S A B D ps pd base s) (hrow:s.d.row.length ≤ 600000) (hpg:1 ≤ s.pages∧s.pages ≤ 4096) (hsm:small s.kept.lines) (e:BitVec 64) :
  Calls Tryz.prog 26 #[.pointer (some ⟨ps,0,none⟩), .int .u64 (e.toNat:Int)] w (Ret (In4 S A B D) w o fun v w' o'=>Wrote S A B D ps pd base w.heap.size (s.promise e) v w' o'):=by
 have hmf:∀ (fn:Fn) (first cap:Array Value) (w:World),(Instr.makeFunc fn first cap).run Tryz.prog w = .ok (.func fn first cap) w:=fun _ _ _ _=>rfl
 have s1:=(Step.refl Nobody w o).alloc (.cells #[.pointer (some ⟨ps,0,none⟩)] 42) (0,0)
 have bs:=Box.new w o 42 (.pointer (some ⟨ps,0,none⟩))
 have z1:(w.alloc (.cells #[.pointer (some ⟨ps,0,none⟩)] 42)).heap.size = w.heap.size + 1:=by simp
 have s2:=(Step.refl Nobody (w.alloc (.cells #[.pointer (some ⟨ps,0,none⟩)] 42)) (Ak o w.heap.size (0,0))).alloc (.cells #[.int .u64 (e.toNat:Int)] 34) (0,0)
 have be_:=Box.new (w.alloc (.cells #[.pointer (some ⟨ps,0,none⟩)] 42)) (Ak o w.heap.size (0,0)) 34 (.int .u64 (e.toNat:Int))
 rw [z1] at s2 be_
 replace bs:=bs.step s2 (fun h=>h)
 have st2:=s1.trans s2
 replace h:=h.step0 st2
 have hsz2:w.heap.size ≤ ((w.alloc (.cells #[.pointer (some ⟨ps,0,none⟩)] 42)).alloc (.cells #[.int .u64 (e.toNat:Int)] 34)).heap.size:=st2.size
 have hmay:=TD h 55 #[.pointer (some ⟨w.heap.size + 1,0,none⟩), .pointer (some ⟨w.heap.size,0,none⟩)] (s.kept.EK e) Tryz.call55 (Tf h e _ _ be_ bs)
 obtain ⟨W2,hW2⟩:∃ W2,(w.alloc (.cells #[.pointer (some ⟨ps,0,none⟩)] 42)).alloc (.cells #[.int .u64 (e.toNat:Int)] 34) = W2:=⟨_,rfl⟩
 rw [hW2] at st2 h bs be_ hmay hsz2
 generalize Ak (Ak o w.heap.size (0,0)) (w.heap.size + 1) (0,0) = o2 at *
 obtain ⟨Q,hQ⟩:∃ Q,s.promise e = Q:=⟨_,rfl⟩
 have hQH:=hidden hQ
 rw [hQ]
 unfold AZ.promise at hQ
 have hW2H:=hidden hW2
 have hH:=hidden (And.intro h (And.intro bs (And.intro be_ st2)))
 have cs:=bs.cell
 have ce:=be_.cell
 have htH:=hidden ht
 have hrowH:=hidden (And.intro hrow (And.intro hpg hsm))
 have hmayH:=hidden hmay
 have nI0:=hidden (aU ht)
 clear h bs be_ st2 s1 s2 hW2 z1 ht hrow hpg hsm hmay hQH
 by_cases hd:(s.dead || s.d.dead) = true
 ·rw [if_pos hd] at hQ hmayH
  have hF:=hidden (show Wrote S A B D ps pd base w.heap.size Q (.int .i64 9) W2 o2 from by rw [←hQ];exact Wrote.same hH.out.1 rfl (by omega))
  have hF2:=hidden (show ∀ w3 o3,Step Nobody W2 o2 w3 o3→Wrote S A B D ps pd base w.heap.size Q (.int .i64 9) w3 o3 from fun w3 o3 st=>by rw [←hQ];exact Wrote.same (hH.out.1.step0 st) rfl (by omega))
  clear hQ
  go_enter Tryz.func26,Tryz.ntmps26
  go_wp2_with fail
  rw [hW2H.out]
  refine hmayH.out.mono ?_;rintro e1 w3 ⟨v3,o3,rfl,hs3,rfl⟩
  go_wp2_with fail
  go_ret
  exact ⟨_,o3,rfl,((hH.out.2.2.2.trans hs3).mono (fun _ h=>h.elim)),hF2.out w3 o3 hs3⟩
 ·rw [if_neg hd] at hQ hmayH
  by_cases hok:s.kept.EK e = true
  ·rw [if_pos hok] at hQ
   rw [if_pos hok] at hmayH
   have hQH:=hidden hQ
   clear hQ hd hok
   go_enter Tryz.func26,Tryz.ntmps26
   go_wp2_with fail
   rw [hW2H.out]
   refine hmayH.out.mono ?_;rintro e1 w3 ⟨v3,o3,rfl,hs3,rfl⟩
   have h3:=hH.out.1.step0 hs3
   have bs3:=hH.out.2.1.step hs3 (fun h=>h)
   have be3:=hH.out.2.2.1.step hs3 (fun h=>h)
   have st3:=hH.out.2.2.2.trans hs3
   obtain ⟨kv,hkl,hrg⟩:=h3.box
   have hld:=hidden (IM hrg)
   have hown:=hidden (Tj (p:=s.kept.promised) (c:=s.kept.current) hkl (by have:=hrowH.out.2.2.1;omega) (fun x hx=>by have:=KG hrowH.out.2.2 x hx;omega))
   have cs3:=bs3.cell
   clear cs ce hkl hrg hs3 hmayH
   go_wp2_with ((with_reducible apply Bo);exact hld.out;simp only [Act.put,lsa,lsz,lss])
   refine hown.out.mono ?_;rintro e1 w4 ⟨v4,o4,rfl,hs4,lv,rfl,hl4,rfl⟩
   have h4:=h3.step0 hs4
   have bs4:=bs3.step hs4 (fun h=>h)
   have be4:=be3.step hs4 (fun h=>h)
   have st4:=st3.trans hs4
   have hl4:=hl4.low st3.size
   obtain ⟨o4,ho4⟩:∃ o4,ext w3 o3 = o4:=⟨_,rfl⟩
   rw [ho4] at hs4 hl4 h4 bs4 be4 st4
   obtain ⟨la,lc,rfl⟩:=hl4.form
   obtain ⟨N,hN⟩:∃ N,N = S + A + B + D + 1:=⟨_,rfl⟩
   have hal:=hidden (AB (P:=Tryz.prog) w4 55 _ LX)
   have hsw:=Be w4 #[.int .u64 0, .int .u64 0, .slice none 0 0] 55 [.int .u64 (s.kept.promised.toNat:Int), .int .u64 (s.kept.current.toNat:Int), .slice la s.kept.lines.length lc] rfl
   obtain ⟨hso, -⟩:=Ba (P:=Tryz.prog) (ty:=55) (vs:=[.int .u64 (s.kept.promised.toNat:Int), .int .u64 (s.kept.current.toNat:Int), .slice la s.kept.lines.length lc]) (heap_alloc_new w4 (.cells [.int .u64 0, .int .u64 0, .slice none 0 0].toArray 55)) rfl (by kernel_rfl) rfl
   rw [hsw] at hso
   have hsoH:=hidden hso
   have sN:=(Step.refl Nobody w4 o4).alloc (.cells [.int .u64 (s.kept.promised.toNat:Int), .int .u64 (s.kept.current.toNat:Int), .slice la s.kept.lines.length lc].toArray 55) (N,0)
   have bn:=heap_alloc_new w4 (.cells [.int .u64 (s.kept.promised.toNat:Int), .int .u64 (s.kept.current.toNat:Int), .slice la s.kept.lines.length lc].toArray 55)
   have tn:Ak o4 w4.heap.size (N,0) w4.heap.size = (N,0):=Au _ _ _
   obtain ⟨nb,hnb⟩:∃ nb,w4.heap.size = nb:=⟨_,rfl⟩
   have hnbw:w.heap.size ≤ nb:=by rw [←hnb];exact st4.size
   obtain ⟨w5,hw5⟩:∃ w5,w4.alloc (.cells [.int .u64 (s.kept.promised.toNat:Int), .int .u64 (s.kept.current.toNat:Int), .slice la s.kept.lines.length lc].toArray 55) = w5:=⟨_,rfl⟩
   rw [hw5] at sN bn hsoH
   rw [hnb] at sN bn tn
   generalize Ak o4 nb (N,0) = o5 at *
   have h5:=h4.step0 sN
   have bs5:=bs4.step sN (fun h=>h)
   have be5:=be4.step sN (fun h=>h)
   have hl5:=hl4.step sN (fun h=>h)
   have st5:=st4.trans sN
   have hnbH:=hidden hnb
   have hw5H:=hidden hw5
   have ce5:=be5.cell
   have c50:w5.cell? ⟨nb,0,none⟩ = some (.int .u64 (s.kept.promised.toNat:Int)):=cell_of_block bn 0
   have f50:=Ap bn 0
   have hset:=(Step.refl (Only N) w5 o5).setCell (a:=⟨nb,0,none⟩) (.int .u64 (e.toNat:Int)) (.inl (by show (o5 nb).1 = N;rw [tn]))
   have bn6:=Ai (i:=0) (.int .u64 (e.toNat:Int)) bn
   simp only [lsz] at bn6
   have nN0:¬ Only N 0:=fun h=>by change 0 = N at h;omega
   have h6:=h5.step hset (by rw [hN];exact Tv)
   have bs6:=bs5.step hset nN0
   have be6:=be5.step hset nN0
   have hl6:=hl5.step hset nN0
   have st6:=st5.setCell (a:=⟨nb,0,none⟩) (.int .u64 (e.toNat:Int)) (.inr hnbw)
   obtain ⟨w6,hw6⟩:∃ w6,w5.setCell ⟨nb,0,none⟩ (.int .u64 (e.toNat:Int)) = w6:=⟨_,rfl⟩
   rw [hw6] at bn6 h6 bs6 be6 hl6 st6
   have hw6H:=hidden hw6
   rw [←hnb] at c50 f50
   clear hnb hw5 hw6 hsw hso hset h5 bs5 be5 hl5 st5 h4 bs4 be4 hl4 st4 h3 bs3 be3 st3 hs4 ho4 hld hown sN cs3 bn
   go_wp2_with (first
    | ((with_reducible apply AU);exact hal.out;simp only [Act.put,lsa,lsz,lss])
    | ((with_reducible apply AC);exact hsoH.out;simp only [Act.put]))
   rw [hnbH.out,hw6H.out]
   have hS6:=And.intro bs6.cell (And.intro be6.cell bn6)
   clear c50 f50 ce5 hal hsoH
   refine Aa (fun w'=>w'.cell? ⟨w.heap.size,0,none⟩ = some (.pointer (some ⟨ps,0,none⟩))∧w'.cell? ⟨w.heap.size + 1,0,none⟩ = some (.int .u64 (e.toNat:Int))∧w'.heap[nb]? = some (.cells [.int .u64 (e.toNat:Int), .int .u64 (s.kept.current.toNat:Int), .slice la s.kept.lines.length lc].toArray 55 (0,0))) (fun _=>true) (by kernel_rfl) hS6 (fun hHeld => ?_)
   refine tq 0 ?_
   refine tq 2 ?_
   refine Dt (i:=4) (v := .agg [.int .u64 (e.toNat:Int), .int .u64 (s.kept.current.toNat:Int), .slice la s.kept.lines.length lc].toArray) rfl (by kernel_rfl) (fun _ _ _ h=>h) (yieldsIf_load_mid rfl 55 (.tmp 6) rfl nb 0 rfl [.int .u64 (e.toNat:Int), .int .u64 (s.kept.current.toNat:Int), .slice la s.kept.lines.length lc] _ (fun w h=>AV h.2.2) Tryz.underlying55 rfl (by kernel_rfl)) (by assumption) ?_
   simp only [Act.put,lsa,lsz,lss]
   refine Ac (i:=1) rfl (by kernel_rfl) ?_
   go_wp2_with fail
   refine (IG (Bytes.nil _ o5) (by simp) 2).mono ?_;rintro e1 w7 ⟨v7,o7,rfl,hs7,hnb7⟩
   have hs7:Step Nobody w6 o5 w7 o7:=(Step.refl Nobody w6 o5).drew.trans hs7
   have bn7:=(hs7.block nb (lt_of_block bn6) (fun h=>h)).trans bn6
   have bs7:=bs6.step hs7 (fun h=>h)
   have be7:=be6.step hs7 (fun h=>h)
   have hS7:=And.intro bs7.cell (And.intro be7.cell bn7)
   clear hHeld
   go_wp2_with fail
   refine ⟨fun _=>hS7, ?_⟩
   refine Ac (i:=3) rfl (by kernel_rfl) ?_
   go_wp2_with fail
   refine (Ef hnb7.bytes (by simp) e).mono ?_;rintro e1 w8 ⟨v8,o8,rfl,hs8,hnb8⟩
   have bn8:=(hs8.block nb (lt_of_block bn7) (fun h=>h)).trans bn7
   have bs8:=bs7.step hs8 (fun h=>h)
   have be8:=be7.step hs8 (fun h=>h)
   have hS8:=And.intro bs8.cell (And.intro be8.cell bn8)
   have hs68:=hs7.trans hs8
   have hwr:=hidden (Lj htH.out (h6.step0 hs68) hrowH.out.1 hrowH.out.2.1 v8 (2 :: be 8 e) (hnb8.congr (l':=2 :: be 8 e) (by simp)).bytes hnb8.cap (by simp) (by simp [Az]) { s.kept with promised:=e } (.slice la s.kept.lines.length lc) (hl6.step hs68 (fun h=>h)) hrowH.out.2.2)
   have st8:=hidden (st6.trans hs68)
   clear hS7 hs7 hs8 hnb7 bs7 be7 bn7
   go_wp2_with fail
   refine ⟨fun _=>hS8, ?_⟩
   refine Ac (i:=5) rfl (by kernel_rfl) ?_
   go_wp2_with fail
   refine hwr.out.mono ?_;rintro e1 w9 ⟨v9,o9,rfl,hs9,hwd⟩
   have bn9:=(hs9.block nb (lt_of_block bn8) (by
    have e8:o8 nb = (N,0):=by rw [hs68.own nb (lt_of_block bn6)];exact tn
    rw [e8];exact (Tv N hN).2)).trans bn8
   have hS9:=And.intro (bs8.step hs9 nI0.out).cell (And.intro (be8.step hs9 nI0.out).cell bn9)
   rw [hQH.out] at hwd
   obtain ⟨rfl,hwd2⟩:=hwd
   have hwd:=hidden (show Wrote S A B D ps pd base w.heap.size Q (.int .i64 Q.2) w9 o9 from ⟨rfl,hwd2⟩)
   have stF:=hidden ((st8.out.mono (T':=In4 S A B D) (fun _ h=>h.elim)).trans hs9)
   clear hs9 hwr hwd2 hS8 bs8 be8 bn8
   go_wp2_with fail
   refine ⟨fun _=>hS9, ?_⟩
   refine tq 6 ?_
   refine Ae (by kernel_rfl) ?_ _
   clear hS9 bn9 hS6
   go_wp2_with fail
   go_ret
   exact ⟨_,o9,rfl,stF.out,hwd.out⟩
  ·rw [if_neg hok] at hQ
   rw [if_neg hok] at hmayH
   have hF2:=hidden (show ∀ w3 o3,Step Nobody W2 o2 w3 o3→Wrote S A B D ps pd base w.heap.size Q (.int .i64 1) w3 o3 from fun w3 o3 st=>by rw [←hQ];exact Wrote.same (hH.out.1.step0 st) rfl (by omega))
   clear hQ hd hok
   go_enter Tryz.func26,Tryz.ntmps26
   go_wp2_with fail
   rw [hW2H.out]
   refine hmayH.out.mono ?_;rintro e1 w3 ⟨v3,o3,rfl,hs3,rfl⟩
   go_wp2_with fail
   go_ret
   exact ⟨_,o3,rfl,((hH.out.2.2.2.trans hs3).mono (fun _ h=>h.elim)),hF2.out w3 o3 hs3⟩
theorem Lines.src {w:World} {o:Own} {base:Nat} {v:Value} {ls:List Ar} (h:Lines w o base v ls):∃ cs,Slc w o v ls.length cs∧cs.length = ls.length * 2∧(∀ u ∈ cs,u.oneCell' = true)∧LnC w o cs ls:=by
 obtain ⟨cs,h1,h2, -, -⟩:=h
 exact ⟨cs,h1,by rw [h2.1];omega,h2.one,h2⟩
theorem VV {w:World} {o:Own} {v:Value} {x1 x2:Value} {b1 b2:Nat} {l1 l2:List Ar} (hv:Slc w o v 2 [x1,x2]) (h1:Lines w o b1 x1 l1) (h2:Lines w o b2 x2 l2) (hn:l1.length + l2.length ≤ 100000) :
  Calls Tryz.prog 84 #[v] w (Ret Nobody w o fun v' w' o'=>Lines w' o' 0 v' (l1 ++ l2)):=by
 obtain ⟨c1,s1,k1,q1,e1⟩:=h1.src
 obtain ⟨c2,s2,k2,q2,e2⟩:=h2.src
 refine (VU (vs:=[x1,x2]) (ns:=[l1.length,l2.length]) (css:=[c1,c2]) hv ?_ rfl rfl ?_ (by simp)).mono ?_
 ·intro k hk
  match k,hk with
  | 0,_=>exact ⟨x1,_,c1,rfl,rfl,rfl,s1,k1,q1⟩
  | 1,_=>exact ⟨x2,_,c2,rfl,rfl,rfl,s2,k2,q2⟩
 ·intro k
  match k with
  | 0=>simp
  | 1=>simp;omega
  | k + 2=>simp;omega
 ·rintro e w' ⟨v',o',rfl,hs,hown,rfl⟩
  refine ⟨v',_,rfl,hs,c1 ++ c2, ?_,(e1.append e2).step hs (fun h=>h),CV.zero _,fun u _=>CV.zero u⟩
  simp only [List.sum_cons,List.sum_nil,Nat.add_zero,List.flatten_cons,List.flatten_nil,List.append_nil] at hown
  rw [List.length_append]
  rcases hown.2 with ⟨rfl,h0⟩ | ⟨g,cap,cur,rfl,q1,q2,q3,q4,q5,q6⟩
  ·refine .inl ⟨⟨none,0,rfl⟩,h0, ?_⟩
   apply List.eq_nil_of_length_eq_zero
   rw [hown.1,h0]
  ·refine .inr ⟨g,0,cap,rfl,q3,q4,by unfold ext;rw [if_neg (by omega)],lt_of_block q2, ?_⟩
   have:=BU (w:=w') (b:=g) (cs:=cur.toList) (E:=36) (fr:=(0,0)) (by simpa using q2) 0 ((l1.length + l2.length) * 2)
   rw [List.drop_zero,q6] at this
   exact this
theorem dF (w:World) (o:Own) (x1 x2:Value) (t:TypeId):Slc (w.alloc (.cells #[x1,x2] t)) (Ak o w.heap.size (0,0)) (.slice (some ⟨w.heap.size,0,none⟩) 2 2) 2 [x1,x2]:=
 .inr ⟨w.heap.size,0,2,rfl,by omega,by simp [maxLen],by rw [Au],by simp,AV (heap_alloc_new w _)⟩
theorem WQ {w:World} {o:Own} {S A B D ps pd base lbase:Nat} {s:AZ} (ht:Qw S A B D) (h:Bi w o S A B D ps pd base s) (hrow:s.d.row.length ≤ 600000) (hpg:1 ≤ s.pages∧s.pages ≤ 4096) (e:BitVec 64) (lv:Value) (ls:List Ar) (hl:Lines w o lbase lv ls) (hn1:ls.length ≤ 1000) (hsm:s.kept.Gg e ls = true→small ls) :
  Calls Tryz.prog 145 #[.pointer (some ⟨ps,0,none⟩), .int .u64 (e.toNat:Int),lv] w (Ret (In4 S A B D) w o fun v w' o'=>Wrote S A B D ps pd base w.heap.size (s.FO e ls) v w' o'):=by
 have hmf:∀ (fn:Fn) (first cap:Array Value) (w:World),(Instr.makeFunc fn first cap).run Tryz.prog w = .ok (.func fn first cap) w:=fun _ _ _ _=>rfl
 obtain ⟨la,lc,rfl⟩:=hl.form
 have s1:=(Step.refl Nobody w o).alloc (.cells #[.pointer (some ⟨ps,0,none⟩)] 42) (0,0)
 have bs:=Box.new w o 42 (.pointer (some ⟨ps,0,none⟩))
 have z1:(w.alloc (.cells #[.pointer (some ⟨ps,0,none⟩)] 42)).heap.size = w.heap.size + 1:=by simp
 have s2:=(Step.refl Nobody (w.alloc (.cells #[.pointer (some ⟨ps,0,none⟩)] 42)) (Ak o w.heap.size (0,0))).alloc (.cells #[.int .u64 (e.toNat:Int)] 34) (0,0)
 have be_:=Box.new (w.alloc (.cells #[.pointer (some ⟨ps,0,none⟩)] 42)) (Ak o w.heap.size (0,0)) 34 (.int .u64 (e.toNat:Int))
 have z2:((w.alloc (.cells #[.pointer (some ⟨ps,0,none⟩)] 42)).alloc (.cells #[.int .u64 (e.toNat:Int)] 34)).heap.size = w.heap.size + 1 + 1:=by simp
 rw [z1] at s2 be_
 have s3:=(Step.refl Nobody ((w.alloc (.cells #[.pointer (some ⟨ps,0,none⟩)] 42)).alloc (.cells #[.int .u64 (e.toNat:Int)] 34)) (Ak (Ak o w.heap.size (0,0)) (w.heap.size + 1) (0,0))).alloc (.cells #[.slice la ls.length lc] 32) (0,0)
 have bl:=Box.new ((w.alloc (.cells #[.pointer (some ⟨ps,0,none⟩)] 42)).alloc (.cells #[.int .u64 (e.toNat:Int)] 34)) (Ak (Ak o w.heap.size (0,0)) (w.heap.size + 1) (0,0)) 32 (.slice la ls.length lc)
 rw [z2] at s3 bl
 replace bs:=(bs.step s2 (fun h=>h)).step s3 (fun h=>h)
 replace be_:=be_.step s3 (fun h=>h)
 have st2:=(s1.trans s2).trans s3
 replace h:=h.step0 st2
 replace hl:=hl.step st2 (fun h=>h)
 have hmay:=TD h 179 #[.pointer (some ⟨w.heap.size + 1,0,none⟩), .pointer (some ⟨w.heap.size,0,none⟩), .pointer (some ⟨w.heap.size + 1 + 1,0,none⟩)] (s.kept.Gg e ls) Tryz.call179 (XA h e _ _ _ _ _ ls be_ bs bl hl (by omega))
 obtain ⟨W2,hW2⟩:∃ W2,((w.alloc (.cells #[.pointer (some ⟨ps,0,none⟩)] 42)).alloc (.cells #[.int .u64 (e.toNat:Int)] 34)).alloc (.cells #[.slice la ls.length lc] 32) = W2:=⟨_,rfl⟩
 rw [hW2] at st2 h bs be_ bl hmay hl
 generalize Ak (Ak (Ak o w.heap.size (0,0)) (w.heap.size + 1) (0,0)) (w.heap.size + 1 + 1) (0,0) = o2 at *
 obtain ⟨Q,hQ⟩:∃ Q,s.FO e ls = Q:=⟨_,rfl⟩
 rw [hQ]
 unfold AZ.FO at hQ
 have hW2H:=hidden hW2
 have hH:=hidden (And.intro h (And.intro bs (And.intro be_ bl)))
 have hst2:=hidden st2
 have cs:=bs.cell
 have hlH:=hidden hl
 have htH:=hidden ht
 have hrowH:=hidden (And.intro hrow (And.intro hpg hsm))
 have hmayH:=hidden hmay
 have nI0:=hidden (aU ht)
 clear h bs be_ bl st2 s1 s2 s3 hW2 z1 z2 ht hrow hpg hsm hmay hl
 by_cases hd:(s.dead || s.d.dead) = true
 ·rw [if_pos hd] at hQ hmayH
  have hF2:=hidden (show ∀ w3 o3,Step Nobody W2 o2 w3 o3→Wrote S A B D ps pd base w.heap.size Q (.int .i64 9) w3 o3 from fun w3 o3 st=>by rw [←hQ];exact Wrote.same (hH.out.1.step0 st) rfl (by omega))
  clear hQ
  go_enter Tryz.func145,Tryz.ntmps145
  go_wp2_with fail
  rw [hW2H.out]
  refine hmayH.out.mono ?_;rintro e1 w3 ⟨v3,o3,rfl,hs3,rfl⟩
  go_wp2_with fail
  go_ret
  exact ⟨_,o3,rfl,((hst2.out.trans hs3).mono (fun _ h=>h.elim)),hF2.out w3 o3 hs3⟩
 ·rw [if_neg hd] at hQ hmayH
  by_cases hok:s.kept.Gg e ls = true
  ·rw [if_pos hok] at hQ
   rw [if_pos hok] at hmayH
   have hrowH:=hidden (And.intro hrowH.out.1 (And.intro hrowH.out.2.1 (hrowH.out.2.2 hok)))
   have hQH:=hidden hQ
   clear hQ hd hok
   go_enter Tryz.func145,Tryz.ntmps145
   go_wp2_with fail
   rw [hW2H.out]
   refine hmayH.out.mono ?_;rintro e1 w3 ⟨v3,o3,rfl,hs3,rfl⟩
   have h3:=hH.out.1.step0 hs3
   have bs3:=hH.out.2.1.step hs3 (fun h=>h)
   have be3:=hH.out.2.2.1.step hs3 (fun h=>h)
   have bl3:=hH.out.2.2.2.step hs3 (fun h=>h)
   have hl3:=hlH.out.step hs3 (fun h=>h)
   have st3:=hst2.out.trans hs3
   have hS:=And.intro bs3.cell (And.intro be3.cell bl3.cell)
   clear cs hs3 hmayH
   go_wp2_with fail
   refine Aa (fun w'=>w'.cell? ⟨w.heap.size,0,none⟩ = some (.pointer (some ⟨ps,0,none⟩))∧w'.cell? ⟨w.heap.size + 1,0,none⟩ = some (.int .u64 (e.toNat:Int))∧w'.cell? ⟨w.heap.size + 1 + 1,0,none⟩ = some (.slice la ls.length lc)) (fun _=>true) (by kernel_rfl) hS (fun hHeld => ?_)
   refine tq 0 ?_
   refine tq 2 ?_
   refine tq 4 ?_
   refine tq 6 ?_
   refine tq 7 ?_
   refine tq 8 ?_
   refine tq 9 ?_
   refine Ac (i:=1) rfl (by kernel_rfl) ?_
   go_wp2_with fail
   refine (IG (Bytes.nil _ o3) (by simp) 3).mono ?_;rintro e1 w4 ⟨v4,o4,rfl,hs4,hnb4⟩
   have hs4:Step Nobody w3 o3 w4 o4:=(Step.refl Nobody w3 o3).drew.trans hs4
   have bs4:=bs3.step hs4 (fun h=>h)
   have be4:=be3.step hs4 (fun h=>h)
   have bl4:=bl3.step hs4 (fun h=>h)
   have hS4:=And.intro bs4.cell (And.intro be4.cell bl4.cell)
   clear hHeld
   go_wp2_with fail
   refine ⟨fun _=>hS4, ?_⟩
   refine Ac (i:=3) rfl (by kernel_rfl) ?_
   go_wp2_with fail
   refine (Ef hnb4.bytes (by simp) e).mono ?_;rintro e1 w5 ⟨v5,o5,rfl,hs5,hnb5⟩
   have bs5:=bs4.step hs5 (fun h=>h)
   have be5:=be4.step hs5 (fun h=>h)
   have bl5:=bl4.step hs5 (fun h=>h)
   have hS5:=And.intro bs5.cell (And.intro be5.cell bl5.cell)
   clear hS4
   go_wp2_with fail
   refine ⟨fun _=>hS5, ?_⟩
   refine Ac (i:=5) rfl (by kernel_rfl) ?_
   go_wp2_with fail
   have st35:=hs4.trans hs5
   refine (Lm hnb5.bytes (hl3.step st35 (fun h=>h)) (by simp [Az];have:=hrowH.out.2.2.2;omega) (by have:=hrowH.out.2.2.1;omega)).mono ?_;rintro e1 w6 ⟨v6,o6,rfl,hs6,hnb6⟩
   have bs6:=bs5.step hs6 (fun h=>h)
   have be6:=be5.step hs6 (fun h=>h)
   have bl6:=bl5.step hs6 (fun h=>h)
   have hS6:=And.intro bs6.cell (And.intro be6.cell bl6.cell)
   have st36:=st35.trans hs6
   have hl6:=hl3.step st36 (fun h=>h)
   have hown:=hidden (Tj (p:=e) (c:=e) hl6 (by have:=hrowH.out.2.2.1;omega) (fun x hx=>by have:=KG hrowH.out.2.2 x hx;omega))
   unfold Dy at hown
   clear hS5
   go_wp2_with fail
   refine ⟨fun _=>hS6, ?_⟩
   refine Ac (i:=10) rfl (by kernel_rfl) ?_
   go_wp2_with fail
   refine hown.out.mono ?_;rintro e1 w7 ⟨v7,o7,rfl,hs7,lv7,rfl,hl7,rfl⟩
   obtain ⟨o7,ho7⟩:∃ o7,ext w6 o6 = o7:=⟨_,rfl⟩
   rw [ho7] at hs7 hl7
   have bs7:=bs6.step hs7 (fun h=>h)
   have be7:=be6.step hs7 (fun h=>h)
   have bl7:=bl6.step hs7 (fun h=>h)
   have hS7:=And.intro bs7.cell (And.intro be7.cell bl7.cell)
   have st37:=st36.trans hs7
   have hsz6:w.heap.size ≤ w6.heap.size:=(st3.trans st36).size
   have hwr:=hidden (Lj htH.out (h3.step0 st37) hrowH.out.1 hrowH.out.2.1 v6 (3 :: (be 8 e ++ GR ls)) ((hnb6.congr (l':=3 :: (be 8 e ++ GR ls)) (by simp)).step hs7 (fun h=>h)).bytes hnb6.cap (by simp) (by simp [GR,Az];have:=hrowH.out.2.2.2;omega) ⟨e,e,ls⟩ lv7 (hl7.low hsz6) hrowH.out.2.2)
   unfold Dy at hwr
   have stH:=hidden (st3.trans st37)
   clear hS6 hown ho7
   go_wp2_with fail
   refine ⟨fun _=>hS7, ?_⟩
   refine Ac (i:=11) rfl (by kernel_rfl) ?_
   go_wp2_with fail
   refine hwr.out.mono ?_;rintro e1 w9 ⟨v9,o9,rfl,hs9,hwd⟩
   have hS9:=And.intro (bs7.step hs9 nI0.out).cell (And.intro (be7.step hs9 nI0.out).cell (bl7.step hs9 nI0.out).cell)
   rw [hQH.out] at hwd
   obtain ⟨rfl,hwd2⟩:=hwd
   have hwd:=hidden (show Wrote S A B D ps pd base w.heap.size Q (.int .i64 Q.2) w9 o9 from ⟨rfl,hwd2⟩)
   have stF:=hidden ((stH.out.mono (T':=In4 S A B D) (fun _ h=>h.elim)).trans hs9)
   clear hs9 hwr hwd2 hS7
   go_wp2_with fail
   refine ⟨fun _=>hS9, ?_⟩
   refine tq 12 ?_
   refine Ae (by kernel_rfl) ?_ _
   clear hS9 hS
   go_wp2_with fail
   go_ret
   exact ⟨_,o9,rfl,stF.out,hwd.out⟩
  ·rw [if_neg hok] at hQ
   rw [if_neg hok] at hmayH
   clear hd hok
   have hF2:=hidden (show ∀ w3 o3,Step Nobody W2 o2 w3 o3→Wrote S A B D ps pd base w.heap.size Q (.int .i64 1) w3 o3 from fun w3 o3 st=>by rw [←hQ];exact Wrote.same (hH.out.1.step0 st) rfl (by omega))
   clear hQ
   go_enter Tryz.func145,Tryz.ntmps145
   go_wp2_with fail
   rw [hW2H.out]
   refine hmayH.out.mono ?_;rintro e1 w3 ⟨v3,o3,rfl,hs3,rfl⟩
   go_wp2_with fail
   go_ret
   exact ⟨_,o3,rfl,((hst2.out.trans hs3).mono (fun _ h=>h.elim)),hF2.out w3 o3 hs3⟩
theorem UD {w:World} {o:Own} {S A B D ps pd base lbase:Nat} {s:AZ} (ht:Qw S A B D) (h:Bi w o S A B D ps pd base s) (hrow:s.d.row.length ≤ 600000) (hpg:1 ≤ s.pages∧s.pages ≤ 4096) (lv:Value) (ls:List Ar) (hl:Lines w o lbase lv ls) (hn1:ls.length ≤ 1000) (hk1:s.kept.lines.length ≤ 1000) (hsm:s.kept.Eu ls = true→small ls∧small s.kept.lines∧small (s.kept.lines ++ ls)) :
  Calls Tryz.prog 41 #[.pointer (some ⟨ps,0,none⟩),lv] w (Ret (In4 S A B D) w o fun v w' o'=>Wrote S A B D ps pd base w.heap.size (s.append ls) v w' o'):=by
 have hmf:∀ (fn:Fn) (first cap:Array Value) (w:World),(Instr.makeFunc fn first cap).run Tryz.prog w = .ok (.func fn first cap) w:=fun _ _ _ _=>rfl
 obtain ⟨la,lc,rfl⟩:=hl.form
 have s1:=(Step.refl Nobody w o).alloc (.cells #[.pointer (some ⟨ps,0,none⟩)] 42) (0,0)
 have bs:=Box.new w o 42 (.pointer (some ⟨ps,0,none⟩))
 have z1:(w.alloc (.cells #[.pointer (some ⟨ps,0,none⟩)] 42)).heap.size = w.heap.size + 1:=by simp
 have s2:=(Step.refl Nobody (w.alloc (.cells #[.pointer (some ⟨ps,0,none⟩)] 42)) (Ak o w.heap.size (0,0))).alloc (.cells #[.slice la ls.length lc] 32) (0,0)
 have bl:=Box.new (w.alloc (.cells #[.pointer (some ⟨ps,0,none⟩)] 42)) (Ak o w.heap.size (0,0)) 32 (.slice la ls.length lc)
 rw [z1] at s2 bl
 replace bs:=bs.step s2 (fun h=>h)
 have st2:=s1.trans s2
 replace h:=h.step0 st2
 replace hl:=hl.step st2 (fun h=>h)
 have hmay:=TD h 80 #[.pointer (some ⟨w.heap.size,0,none⟩), .pointer (some ⟨w.heap.size + 1,0,none⟩)] (s.kept.Eu ls) Tryz.call80 (Wj h _ _ _ _ ls bs bl hl (by omega) hk1)
 obtain ⟨W2,hW2⟩:∃ W2,(w.alloc (.cells #[.pointer (some ⟨ps,0,none⟩)] 42)).alloc (.cells #[.slice la ls.length lc] 32) = W2:=⟨_,rfl⟩
 rw [hW2] at st2 h bs bl hmay hl
 generalize Ak (Ak o w.heap.size (0,0)) (w.heap.size + 1) (0,0) = o2 at *
 obtain ⟨Q,hQ⟩:∃ Q,s.append ls = Q:=⟨_,rfl⟩
 rw [hQ]
 unfold AZ.append at hQ
 have hW2H:=hidden hW2
 have hH:=hidden (And.intro h (And.intro bs bl))
 have hst2:=hidden st2
 have cs:=bs.cell
 have hlH:=hidden hl
 have htH:=hidden ht
 have hrowH:=hidden (And.intro hrow (And.intro hpg hsm))
 have hmayH:=hidden hmay
 have nI0:=hidden (aU ht)
 clear h bs bl st2 s1 s2 hW2 z1 ht hrow hpg hsm hmay hl
 by_cases hd:(s.dead || s.d.dead) = true
 ·rw [if_pos hd] at hQ hmayH
  have hF2:=hidden (show ∀ w3 o3,Step Nobody W2 o2 w3 o3→Wrote S A B D ps pd base w.heap.size Q (.int .i64 9) w3 o3 from fun w3 o3 st=>by rw [←hQ];exact Wrote.same (hH.out.1.step0 st) rfl (by omega))
  clear hQ
  go_enter Tryz.func41,Tryz.ntmps41
  go_wp2_with fail
  rw [hW2H.out]
  refine hmayH.out.mono ?_;rintro e1 w3 ⟨v3,o3,rfl,hs3,rfl⟩
  go_wp2_with fail
  go_ret
  exact ⟨_,o3,rfl,((hst2.out.trans hs3).mono (fun _ h=>h.elim)),hF2.out w3 o3 hs3⟩
 ·rw [if_neg hd] at hQ hmayH
  by_cases hok:s.kept.Eu ls = true
  ·rw [if_pos hok] at hQ
   rw [if_pos hok] at hmayH
   have hrowH:=hidden (And.intro hrowH.out.1 (And.intro hrowH.out.2.1 (hrowH.out.2.2 hok)))
   have hQH:=hidden hQ
   clear hQ hd hok
   go_enter Tryz.func41,Tryz.ntmps41
   go_wp2_with fail
   rw [hW2H.out]
   refine hmayH.out.mono ?_;rintro e1 w3 ⟨v3,o3,rfl,hs3,rfl⟩
   have h3:=hH.out.1.step0 hs3
   have bs3:=hH.out.2.1.step hs3 (fun h=>h)
   have bl3:=hH.out.2.2.step hs3 (fun h=>h)
   have hl3:=hlH.out.step hs3 (fun h=>h)
   have st3:=hst2.out.trans hs3
   obtain ⟨kv,hkl,hrg⟩:=h3.box
   obtain ⟨ka,kc,rfl⟩:=hkl.form
   have hld:=hidden (OV hrg)
   have cs3:=bs3.cell
   obtain ⟨N,hN⟩:∃ N,N = S + A + B + D + 1:=⟨_,rfl⟩
   have hal:=hidden (AB (P:=Tryz.prog) w3 55 _ LX)
   have hsw:=Be w3 #[.int .u64 0, .int .u64 0, .slice none 0 0] 55 [.int .u64 (s.kept.promised.toNat:Int), .int .u64 (s.kept.current.toNat:Int), .slice ka s.kept.lines.length kc] rfl
   obtain ⟨hso, -⟩:=Ba (P:=Tryz.prog) (ty:=55) (vs:=[.int .u64 (s.kept.promised.toNat:Int), .int .u64 (s.kept.current.toNat:Int), .slice ka s.kept.lines.length kc]) (heap_alloc_new w3 (.cells [.int .u64 0, .int .u64 0, .slice none 0 0].toArray 55)) rfl (by kernel_rfl) rfl
   rw [hsw] at hso
   have hsoH:=hidden hso
   have sN:=(Step.refl Nobody w3 o3).alloc (.cells [.int .u64 (s.kept.promised.toNat:Int), .int .u64 (s.kept.current.toNat:Int), .slice ka s.kept.lines.length kc].toArray 55) (N,0)
   have bn:=heap_alloc_new w3 (.cells [.int .u64 (s.kept.promised.toNat:Int), .int .u64 (s.kept.current.toNat:Int), .slice ka s.kept.lines.length kc].toArray 55)
   have tn:Ak o3 w3.heap.size (N,0) w3.heap.size = (N,0):=Au _ _ _
   have hnbw:w.heap.size ≤ w3.heap.size:=st3.size
   obtain ⟨w5,hw5⟩:∃ w5,w3.alloc (.cells [.int .u64 (s.kept.promised.toNat:Int), .int .u64 (s.kept.current.toNat:Int), .slice ka s.kept.lines.length kc].toArray 55) = w5:=⟨_,rfl⟩
   rw [hw5] at sN bn hsoH
   generalize Ak o3 w3.heap.size (N,0) = o5 at *
   have h5:=h3.step0 sN
   have bs5:=bs3.step sN (fun h=>h)
   have bl5:=bl3.step sN (fun h=>h)
   have hl5:=hl3.step sN (fun h=>h)
   have hkl5:=hkl.step sN (fun h=>h)
   have st5:=st3.trans sN
   have c52:w5.cell? ⟨w3.heap.size,2,none⟩ = some (.slice ka s.kept.lines.length kc):=cell_of_block bn 2
   have cl5:=bl5.cell
   have sR:=(Step.refl Nobody w5 o5).alloc (.cells #[.slice ka s.kept.lines.length kc, .slice la ls.length lc] 32) (0,0)
   have slR:=dF w5 o5 (.slice ka s.kept.lines.length kc) (.slice la ls.length lc) 32
   have hcc:=hidden (VV slR (hkl5.step sR (fun h=>h)) (hl5.step sR (fun h=>h)) (by have:=hrowH.out.2.2.2.2.1;rw [List.length_append] at this;omega))
   have bn6:=(sR.block w3.heap.size (lt_of_block bn) (fun h=>h)).trans bn
   have tn6:=(sR.own w3.heap.size (lt_of_block bn)).trans tn
   have h6:=h5.step0 sR
   have bs6:=bs5.step sR (fun h=>h)
   have bl6:=bl5.step sR (fun h=>h)
   have hl6:=hl5.step sR (fun h=>h)
   have st6:=st5.trans sR
   clear hrg hkl hsw hso hw5 sN bn tn h5 bs5 bl5 hl5 hkl5 st5 sR slR h3 bs3 bl3 hl3 hmayH cs
   generalize hgR:Ak o5 w5.heap.size (0,0) = o6 at *
   clear hgR
   go_wp2_with (first
    | ((with_reducible apply Bo);exact hld.out;simp only [Act.put,lsa,lsz,lss])
    | ((with_reducible apply AU);exact hal.out;simp only [Act.put,lsa,lsz,lss])
    | ((with_reducible apply AC);exact hsoH.out;simp only [Act.put]))
   refine hcc.out.mono ?_;rintro e1 w7 ⟨v7,o7,rfl,hs7,hl7⟩
   obtain ⟨nb,hnb⟩:∃ nb,w3.heap.size = nb:=⟨_,rfl⟩
   have bn7:=(hs7.block _ (lt_of_block bn6) (fun h=>h)).trans bn6
   have tn7:=(hs7.own _ (lt_of_block bn6)).trans tn6
   rw [hnb] at bn7 tn7
   have h7:=h6.step0 hs7
   have bs7:=bs6.step hs7 (fun h=>h)
   have bl7:=bl6.step hs7 (fun h=>h)
   have hl7s:=hl6.step hs7 (fun h=>h)
   have st7:=st6.trans hs7
   have hset:=(Step.refl (Only N) w7 o7).setCell (a:=⟨nb,2,none⟩) v7 (.inl (by show (o7 nb).1 = N;rw [tn7]))
   have bn8:=Ai (i:=2) v7 bn7
   simp only [lsz,lss] at bn8
   have nN0:¬ Only N 0:=fun h=>by change 0 = N at h;omega
   have h8:=h7.step hset (by rw [hN];exact Tv)
   have bs8:=bs7.step hset nN0
   have bl8:=bl7.step hset nN0
   have hl8:=hl7s.step hset nN0
   have hlv8:=hl7.step hset nN0
   have st8:=st7.setCell (a:=⟨nb,2,none⟩) v7 (.inr (by rw [←hnb];exact hnbw))
   have c72:w7.cell? ⟨nb,2,none⟩ = some (.slice ka s.kept.lines.length kc):=cell_of_block bn7 2
   have f72:=Ap bn7 2
   obtain ⟨w8,hw8⟩:∃ w8,w7.setCell ⟨nb,2,none⟩ v7 = w8:=⟨_,rfl⟩
   rw [hw8] at bn8 h8 bs8 bl8 hl8 hlv8 st8
   have hnbH:=hidden hnb
   have hw8H:=hidden hw8
   rw [hnbH.out]
   obtain ⟨va,vc,rfl⟩:=hlv8.form
   have hown:=hidden (fun (W:World) (O:Own) (st:Step Nobody w8 o7 W O)=>Tj (p:=s.kept.promised) (c:=s.kept.current) (hlv8.step st (fun h=>h)) (by have:=hrowH.out.2.2.2.2.1;omega) (fun x hx=>by have:=KG hrowH.out.2.2.2.2 x hx;omega))
   unfold Dy at hown
   obtain ⟨LL,hLL⟩:∃ LL,(s.kept.lines ++ ls).length = LL:=⟨_,rfl⟩
   rw [hLL] at hown bn8 hw8H
   clear hnb hw8 hset h7 bs7 bl7 hl7s st7 h6 bs6 bl6 hl6 st6 hs7 hl7 bn6 tn6 c52 cl5 hcc hld hal hsoH cs3 bn7 hs3 st3 hlv8
   rw [hLL]
   have hS8:=And.intro bs8.cell (And.intro bl8.cell bn8)
   go_wp2_with fail
   rw [hw8H.out]
   refine Aa (fun w'=>w'.cell? ⟨w.heap.size,0,none⟩ = some (.pointer (some ⟨ps,0,none⟩))∧w'.cell? ⟨w.heap.size + 1,0,none⟩ = some (.slice la ls.length lc)∧w'.heap[nb]? = some (.cells [.int .u64 (s.kept.promised.toNat:Int), .int .u64 (s.kept.current.toNat:Int), .slice va LL vc].toArray 55 (0,0))) (fun _=>true) (by kernel_rfl) hS8 (fun hHeld => ?_)
   refine tq 0 ?_
   refine tq 2 ?_
   refine Dt (i:=4) (v := .agg [.int .u64 (s.kept.promised.toNat:Int), .int .u64 (s.kept.current.toNat:Int), .slice va LL vc].toArray) rfl (by kernel_rfl) (fun _ _ _ h=>h) (yieldsIf_load_mid rfl 55 (.tmp 6) rfl nb 0 rfl [.int .u64 (s.kept.promised.toNat:Int), .int .u64 (s.kept.current.toNat:Int), .slice va LL vc] _ (fun w h=>AV h.2.2) Tryz.underlying55 rfl (by kernel_rfl)) (by assumption) ?_
   simp only [Act.put,lsa,lsz,lss]
   refine Ac (i:=1) rfl (by kernel_rfl) ?_
   go_wp2_with fail
   refine (IG (Bytes.nil _ o7) (by simp) 4).mono ?_;rintro e1 w9 ⟨v9,o9,rfl,hs9,hnb9⟩
   have hs9:Step Nobody w8 o7 w9 o9:=(Step.refl Nobody w8 o7).drew.trans hs9
   have bs9:=bs8.step hs9 (fun h=>h)
   have bl9:=bl8.step hs9 (fun h=>h)
   have bn9:=(hs9.block nb (lt_of_block bn8) (fun h=>h)).trans bn8
   have hS9:=And.intro bs9.cell (And.intro bl9.cell bn9)
   clear hHeld
   go_wp2_with fail
   refine ⟨fun _=>hS9, ?_⟩
   refine Ac (i:=3) rfl (by kernel_rfl) ?_
   go_wp2_with fail
   refine (Lm hnb9.bytes (hl8.step hs9 (fun h=>h)) (by simp;have:=hrowH.out.2.2.1.2;omega) (by have:=hrowH.out.2.2.1.1;omega)).mono ?_;rintro e1 w10 ⟨v10,o10,rfl,hs10,hnb10⟩
   have bs10:=bs9.step hs10 (fun h=>h)
   have bl10:=bl9.step hs10 (fun h=>h)
   have bn10:=(hs10.block nb (lt_of_block bn9) (fun h=>h)).trans bn9
   have hS10:=And.intro bs10.cell (And.intro bl10.cell bn10)
   have st810:=hs9.trans hs10
   clear hS9
   go_wp2_with fail
   refine ⟨fun _=>hS10, ?_⟩
   refine Ac (i:=5) rfl (by kernel_rfl) ?_
   go_wp2_with fail
   refine (hown.out _ _ st810).mono ?_;rintro e1 w11 ⟨v11,o11,rfl,hs11,lv11,rfl,hl11,rfl⟩
   obtain ⟨o11,ho11⟩:∃ o11,ext w10 o10 = o11:=⟨_,rfl⟩
   rw [ho11] at hs11 hl11
   have bs11:=bs10.step hs11 (fun h=>h)
   have bl11:=bl10.step hs11 (fun h=>h)
   have bn11:=(hs11.block nb (lt_of_block bn10) (fun h=>h)).trans bn10
   have hS11:=And.intro bs11.cell (And.intro bl11.cell bn11)
   have st811:=st810.trans hs11
   have hsz10:w.heap.size ≤ w10.heap.size:=(st8.trans st810).size
   have hwr:=hidden (Lj htH.out (h8.step0 st811) hrowH.out.1 hrowH.out.2.1 v10 (4 :: GR ls) ((hnb10.congr (l':=4 :: GR ls) (by simp)).step hs11 (fun h=>h)).bytes hnb10.cap (by simp) (by simp [GR,Az];have:=hrowH.out.2.2.1.2;omega) { s.kept with lines:=s.kept.lines ++ ls } lv11 (hl11.low hsz10) hrowH.out.2.2.2.2)
   unfold Dy at hwr
   have stH:=hidden (st8.trans st811)
   have tn11:=hidden ((st811.own nb (lt_of_block bn8)).trans tn7)
   clear hS10 hown ho11
   go_wp2_with fail
   refine ⟨fun _=>hS11, ?_⟩
   refine Ac (i:=6) rfl (by kernel_rfl) ?_
   go_wp2_with fail
   refine hwr.out.mono ?_;rintro e1 w12 ⟨v12,o12,rfl,hs12,hwd⟩
   have bn12:=(hs12.block nb (lt_of_block bn11) (by rw [tn11.out];exact (Tv N hN).2)).trans bn11
   have hS12:=And.intro (bs11.step hs12 nI0.out).cell (And.intro (bl11.step hs12 nI0.out).cell bn12)
   rw [hQH.out] at hwd
   obtain ⟨rfl,hwd2⟩:=hwd
   have hwd:=hidden (show Wrote S A B D ps pd base w.heap.size Q (.int .i64 Q.2) w12 o12 from ⟨rfl,hwd2⟩)
   have stF:=hidden ((stH.out.mono (T':=In4 S A B D) (fun _ h=>h.elim)).trans hs12)
   clear hs12 hwr hwd2 hS11
   go_wp2_with fail
   refine ⟨fun _=>hS12, ?_⟩
   refine tq 7 ?_
   refine Ae (by kernel_rfl) ?_ _
   clear hS12 hS8
   go_wp2_with fail
   go_ret
   exact ⟨_,o12,rfl,stF.out,hwd.out⟩
  ·rw [if_neg hok] at hQ
   rw [if_neg hok] at hmayH
   clear hd hok
   have hF2:=hidden (show ∀ w3 o3,Step Nobody W2 o2 w3 o3→Wrote S A B D ps pd base w.heap.size Q (.int .i64 1) w3 o3 from fun w3 o3 st=>by rw [←hQ];exact Wrote.same (hH.out.1.step0 st) rfl (by omega))
   clear hQ
   go_enter Tryz.func41,Tryz.ntmps41
   go_wp2_with fail
   rw [hW2H.out]
   refine hmayH.out.mono ?_;rintro e1 w3 ⟨v3,o3,rfl,hs3,rfl⟩
   go_wp2_with fail
   go_ret
   exact ⟨_,o3,rfl,((hst2.out.trans hs3).mono (fun _ h=>h.elim)),hF2.out w3 o3 hs3⟩
structure RdM where
 b:List UInt8
 bad:Bool
namespace RdM
def take (n:Nat) (m:RdM):Option (List UInt8) × RdM:=
 if m.bad then (none,m) else if m.b.length < n then (none,{ m with bad:=true }) else (some (m.b.take n),{ m with b:=m.b.drop n })
def num (n:Nat) (m:RdM):BitVec 64 × RdM:=(((m.take n).1.map Go.Proofs.YthmpmgknnibljaaGreat.num).getD 0,(m.take n).2)
def txt (n:Nat) (m:RdM):List UInt8 × RdM:=((m.take n).1.getD [],(m.take n).2)
def text (m:RdM):List UInt8 × RdM:=(m.num 4).2.txt (m.num 4).1.toNat
def count (most:Nat) (m:RdM):Nat × RdM:=if most < (m.num 8).1.toNat then (0,{ (m.num 8).2 with bad:=true }) else ((m.num 8).1.toNat,(m.num 8).2)
def done (m:RdM):Int:=if m.bad || decide (0 < m.b.length) then 2 else 0
end RdM
def Ep (w:World) (o:Own) (Z p:Nat) (m:RdM):Prop:=
 ∃ bv,w.heap[p]? = some (.cells #[bv, .bool m.bad] 215 (0,0))∧o p = (Z,0)∧Bytes w o bv m.b
theorem Ep.step {T:Nat→Prop} {w w':World} {o o':Own} {Z p:Nat} {m:RdM} (h:Ep w o Z p m) (s:Step T w o w' o') (hZ:¬ T Z) (h0:¬ T 0):Ep w' o' Z p m:=by
 obtain ⟨bv,h1,h2,h3⟩:=h
 have hl:=lt_of_block h1
 exact ⟨bv,by rw [s.block p hl (by rw [h2];exact hZ)];exact h1,by rw [s.own p hl];exact h2,h3.step s h0⟩
theorem addr_add (b off k:Nat):(⟨b,off,none⟩:Addr).add k = ⟨b,off + k,none⟩:=Addr.add_mid b off k
theorem Nl {w:World} {o:Own} {bv:Value} {l:List UInt8} (h:Bytes w o bv l) (n:Nat) (hn:n ≤ l.length) :
  ∃ v,(Instr.sliceAt 23 bv none (some (.int .u64 (n:Int))) (some (.int .u64 (n:Int)))).run Tryz.prog w = .ok v w∧Bytes w o v (l.take n):=by
 have hu:Tryz.prog.underlying 23 = some (.slice (Tryz.prog.elem 23)):=by kernel_rfl
 have hsz:(sizeOf (Tryz.prog.elem 23)).run Tryz.prog w = .ok 1 w:=by
  have:Tryz.prog.elem 23 = 5:=by kernel_rfl
  rw [this]
  have h5:(Tryz.prog.info? 5).map (·.size) = some 1:=by kernel_rfl
  cases hq:Tryz.prog.info? 5 with
  | none=>simp [hq] at h5
  | some i=>simp [hq] at h5;simp [sizeOf,typeInfo,hq,h5]
 rcases h with ⟨⟨a,c,rfl⟩,h0,_⟩ | ⟨b,off,cap,rfl,hl,hm,ho,hb,hr⟩
 ·have hn0:n = 0:=by omega
  subst hn0
  refine ⟨_, ?_, .inl ⟨⟨a,0,rfl⟩,by simp,by simp⟩⟩
  rw [run_sliceAt_slice _ _ _ _ _ _ hu,run_slice_hm w 23 a 0 c hu .u64 .u64 ((0:Nat):Int) ((0:Nat):Int) (by omega) (by omega) (by omega),hsz]
  rfl
 ·by_cases hn0:n = 0
  ·subst hn0
   refine ⟨_, ?_, .inl ⟨⟨some ⟨b,off,none⟩,0,rfl⟩,by simp,by simp⟩⟩
   rw [run_sliceAt_slice _ _ _ _ _ _ hu,run_slice_hm w 23 _ l.length cap hu .u64 .u64 ((0:Nat):Int) ((0:Nat):Int) (by omega) (by omega) (by omega),hsz]
   rfl
  ·refine ⟨.slice (some ⟨b,off,none⟩) n n, ?_, .inr ⟨b,off,n,by rw [List.length_take,Nat.min_eq_left hn],by rw [List.length_take];omega,by omega,ho,hb, ?_⟩⟩
   ·rw [run_sliceAt_slice _ _ _ _ _ _ hu,run_slice_hm w 23 _ l.length cap hu .u64 .u64 n n (by omega) (by omega) (by omega),hsz]
    simp only [Result.andThen_ok,sliced,Int.toNat_natCast,Nat.sub_zero,if_neg hn0,Option.map_some,addr_add,Nat.zero_mul,Nat.add_zero]
   ·rw [←Ky];exact ER hr 0 n
theorem Qp {w:World} {o:Own} {bv:Value} {l:List UInt8} (h:Bytes w o bv l) (n:Nat) (hn:n ≤ l.length) :
  ∃ v,(Instr.sliceAt 23 bv (some (.int .u64 (n:Int))) none none).run Tryz.prog w = .ok v w∧Bytes w o v (l.drop n):=by
 have hu:Tryz.prog.underlying 23 = some (.slice (Tryz.prog.elem 23)):=by kernel_rfl
 have hsz:(sizeOf (Tryz.prog.elem 23)).run Tryz.prog w = .ok 1 w:=by
  have:Tryz.prog.elem 23 = 5:=by kernel_rfl
  rw [this]
  have h5:(Tryz.prog.info? 5).map (·.size) = some 1:=by kernel_rfl
  cases hq:Tryz.prog.info? 5 with
  | none=>simp [hq] at h5
  | some i=>simp [hq] at h5;simp [sizeOf,typeInfo,hq,h5]
 rcases h with ⟨⟨a,c,rfl⟩,h0,_⟩ | ⟨b,off,cap,rfl,hl,hm,ho,hb,hr⟩
 ·have hn0:n = 0:=by omega
  subst hn0
  refine ⟨_, ?_, .inl ⟨⟨if c = 0 then a else a.map (·.add (0 * 1)),c - 0,rfl⟩,by simpa using h0,by rw [List.eq_nil_of_length_eq_zero h0];rfl⟩⟩
  rw [run_sliceAt_slice _ _ _ _ _ _ hu,run_slice_l w 23 a 0 c hu .u64 ((0:Nat):Int) (by omega) (by omega),hsz]
  rfl
 ·by_cases hn0:n = l.length
  ·refine ⟨.slice (if cap = n then some ⟨b,off,none⟩ else some ⟨b,off + n,none⟩) 0 (cap - n), ?_, .inl ⟨⟨_,_,rfl⟩,by simp;omega,by rw [List.drop_eq_nil_of_le (by omega)];rfl⟩⟩
   rw [run_sliceAt_slice _ _ _ _ _ _ hu,run_slice_l w 23 _ l.length cap hu .u64 n (by omega) (by omega),hsz]
   simp only [Result.andThen_ok,sliced,Int.toNat_natCast,Option.map_some,addr_add,Nat.mul_one]
   rw [hn0,Nat.sub_self]
  ·refine ⟨.slice (some ⟨b,off + n,none⟩) (l.length - n) (cap - n), ?_, .inr ⟨b,off + n,cap - n,by rw [List.length_drop],by rw [List.length_drop];omega,by omega,ho,hb, ?_⟩⟩
   ·rw [run_sliceAt_slice _ _ _ _ _ _ hu,run_slice_l w 23 _ l.length cap hu .u64 n (by omega) (by omega),hsz]
    simp only [Result.andThen_ok,sliced,Int.toNat_natCast,Option.map_some,addr_add,Nat.mul_one]
    rw [if_neg (by omega)]
   ·have:=ER hr n (l.length - n)
    rw [List.take_of_length_le (by rw [List.length_drop,Bh];omega),Np] at this
    exact this
theorem NH {w:World} {o:Own} {v:Value} {l:List UInt8} (Z:Nat) (h:Bytes w o v l) (hl:l.length ≤ 1000000) :
  Calls Tryz.prog 92 #[v] w (Ret Nobody w o fun v w' o'=>∃ p,w.heap.size ≤ p∧v = .pointer (some ⟨p,0,none⟩)∧Ep w' o' Z p ⟨l,false⟩):=by
 have hc:=hidden (clone_any h (by omega))
 clear h
 go_enter Tryz.func92,Tryz.ntmps92
 go_wp2_with fail
 refine hc.out.mono ?_;rintro e w1 ⟨v1,o1,rfl,hs,hnb⟩
 have hst:=hs.alloc (.cells #[v1, .bool false] 215) (Z,0)
 have hR:Ep (w1.alloc (.cells #[v1, .bool false] 215)) (Ak o1 w1.heap.size (Z,0)) Z w1.heap.size ⟨l,false⟩:=
  ⟨v1,heap_alloc_new w1 _,Au _ _ _,hnb.bytes.step ((Step.refl Nobody w1 o1).alloc _ (Z,0)) (fun h=>h)⟩
 have hF:=hidden (And.intro hst hR)
 have hsz:=hs.size
 obtain ⟨a,c,hv⟩:=Aq hnb.bytes
 subst hv
 clear hst hR hnb hs
 go_wp2_with fail
 go_ret
 exact ⟨_,_,rfl,hF.out.1,w1.heap.size,hsz,rfl,hF.out.2⟩
theorem WA {w:World} {o:Own} {v:Value} {l:List UInt8} (h:Bytes w o v l) (hll:l.length ≤ 1000000) :
  Calls Tryz.prog 150 #[v] w fun e w'=>e = .returned (.int .u64 ((num l).toNat:Int))∧w = w':=by
 obtain ⟨a,c,hv⟩:=Aq h
 have hcell:∀ i (hi:i < l.length),∃ b off,a = some ⟨b,off,none⟩∧w.cell? ⟨b,off + i,none⟩ = some (.int .u8 ((l[i].toNat:Int))):=by
  intro i hi
  rcases h.cases with ⟨_,rfl⟩ | ⟨b,off,cap,hv2,hl,hm,ho,hb,hr⟩
  ·simp at hi
  ·rw [hv] at hv2
   simp only [Value.slice.injEq] at hv2
   refine ⟨b,off,hv2.1,hr i _ ?_⟩
   rw [OW,List.getElem?_eq_getElem hi];rfl
 subst hv
 clear h
 go_enter Tryz.func150,Tryz.ntmps150
 go_wp2_with fail
 go_loop [3,8] (fun n i=>∃ k:Nat,k ≤ l.length∧i = .int .i64 k∧n = .int .u64 ((num (l.take k)).toNat:Int)) (fun _ i=>l.length - (intOf i).toNat)
 case atStart=>exact ⟨0,Nat.zero_le _,rfl,rfl⟩
 case round =>
  obtain ⟨k,hk,rfl,rfl⟩:=hrel
  by_cases hlt:k < l.length
  ·obtain ⟨b,off,rfl,hc⟩:=hcell k hlt
   have hsn:num (l.take (k + 1)) = (num (l.take k) <<< 8) ||| BitVec.ofNat 64 l[k].toNat:=by
    rw [List.take_succ_eq_append_getElem hlt,Ve]
   have hsnH:=hidden hsn
   clear hsn hcell
   generalize hcc:l[k] = cc at *
   clear hcc
   go_wp2_with fail
   go_round
   case rel=>exact ⟨k + 1,hlt,by go_num,by rw [hsnH.out, ←Nr, ←NC, ←wrap_u8]⟩
   case measure=>simp [intOf];omega
  ·have hk':k = l.length:=by omega
   subst hk'
   rw [List.take_length]
   go_wp2_with fail
   go_ret
   exact ⟨rfl,rfl⟩
theorem Xv {w:World} {o:Own} {v:Value} {l:List UInt8} (h:Bytes w o v l) (hll:l.length ≤ 1000000):Calls Tryz.prog 153 #[v] w (Ret Nobody w o fun v w' o'=>Ew w w' o' v l):=by
 have hc:=hidden (clone_any h (by omega))
 clear h
 go_enter Tryz.func153,Tryz.ntmps153
 go_wp2_with fail
 refine hc.out.mono ?_;rintro e w1 ⟨v1,o1,rfl,hs,hnb⟩
 go_wp2_with fail
 go_ret
 exact ⟨_,o1,rfl,hs,hnb⟩
theorem NF {w:World} {o:Own} {Z p:Nat} {m:RdM} (h:Ep w o Z p m) (hZ:Z ≠ 0) (hm:m.b.length ≤ 1000000) (n:Nat) (hn:n ≤ 8) :
  Calls Tryz.prog 149 #[.pointer (some ⟨p,0,none⟩), .int .u64 (n:Int), .func (.func 150) #[] #[]] w (Ret (Only Z) w o fun v w' o'=>v = .int .u64 ((m.num n).1.toNat:Int)∧Ep w' o' Z p (m.num n).2):=by
 obtain ⟨bv,h1,h2,h3⟩:=h
 obtain ⟨L,hL⟩:∃ L,m.b.length = L:=⟨_,rfl⟩
 have hni:(0:Int) ≤ (n:Int)∧(n:Int) ≤ 8:=by omega
 have hLi:(0:Int) ≤ (L:Int)∧(L:Int) ≤ 1000000:=by omega
 have c0:w.cell? ⟨p,0,none⟩ = some bv:=cell_of_block (cs:=[_,_]) h1 0
 have c1:w.cell? ⟨p,1,none⟩ = some (.bool m.bad):=cell_of_block (cs:=[_,_]) h1 1
 have f0:w.frozen? ⟨p,0,none⟩ = false:=Ap (cs:=[_,_]) h1 0
 have f1:w.frozen? ⟨p,1,none⟩ = false:=Ap (cs:=[_,_]) h1 1
 have hck:=Tryz.call150
 obtain ⟨q,hq⟩:∃ q,m.take n = q:=⟨_,rfl⟩
 have hqH:=hidden hq
 unfold RdM.num
 rw [hq]
 unfold RdM.take at hq
 have h0:¬ Only Z 0:=fun h=>hZ h.symm
 have hH:=hidden (And.intro h1 (And.intro h2 h3))
 obtain ⟨ba,bc,rfl⟩:=Aq h3
 cases hb:m.bad with
 | true =>
  rw [hb] at c1
  rw [if_pos hb] at hq
  have hF:=hidden (show q.1 = none∧Ep w o Z p q.2 from by rw [←hq];exact ⟨rfl,_,h1,h2,h3⟩)
  clear hq h1 h2 h3 hb
  go_enter Tryz.func149,Tryz.ntmps149
  go_wp2_with fail
  go_ret
  exact ⟨_,o,rfl,Step.refl _ _ _,by rw [hF.out.1];rfl,hF.out.2⟩
 | false =>
  rw [hb] at c1
  rw [if_neg (by rw [hb];simp)] at hq
  by_cases hlt:L < n
  ·rw [if_pos (by omega)] at hq
   have hltI:(L:Int) < (n:Int):=by omega
   have hset:=(Step.refl (Only Z) w o).setCell (a:=⟨p,1,none⟩) (.bool true) (.inl (by show (o p).1 = Z;rw [h2]))
   have hF:=hidden (show q.1 = none∧Ep (w.setCell ⟨p,1,none⟩ (.bool true)) o Z p q.2 from by rw [←hq];exact ⟨rfl,_,Ai (cs:=[_,_]) (i:=1) _ h1,h2,h3.step hset h0⟩)
   have hsH:=hidden hset
   rw [hL] at c0
   clear hq h1 h2 h3 hb hset hH
   go_enter Tryz.func149,Tryz.ntmps149
   go_wp2_with fail
   go_ret
   exact ⟨_,o,rfl,hsH.out,by rw [hF.out.1];rfl,hF.out.2⟩
  ·rw [if_neg (by omega)] at hq
   have hltI:¬ (L:Int) < (n:Int):=by omega
   obtain ⟨v1,r1,hb1⟩:=Nl h3 n (by omega)
   obtain ⟨v2,r2,hb2⟩:=Qp h3 n (by omega)
   obtain ⟨a2,d2,e2⟩:=Aq hb2
   rw [List.length_drop,hL] at e2
   obtain ⟨L2,hL2⟩:∃ L2,L - n = L2:=⟨_,rfl⟩
   rw [hL2] at e2
   subst e2
   clear hL2
   have hset:=(Step.refl (Only Z) w o).setCell (a:=⟨p,0,none⟩) (.slice a2 L2 d2) (.inl (by show (o p).1 = Z;rw [h2]))
   have hF:=hidden (show q.1 = some (m.b.take n)∧Ep (w.setCell ⟨p,0,none⟩ (.slice a2 L2 d2)) o Z p q.2 from by rw [←hq];exact ⟨rfl,_,Ai (cs:=[_,_]) (i:=0) _ h1,h2,hb2.step hset h0⟩)
   have hcl:=hidden (WA (hb1.step hset h0) (by rw [List.length_take];omega))
   have hsH:=hidden hset
   have r1H:=hidden r1
   have r2H:=hidden r2
   rw [hL] at c0 r1H r2H
   clear hq h1 h2 h3 hb hset r1 r2 hb1 hb2 hH
   go_enter Tryz.func149,Tryz.ntmps149
   go_wp2_with ((with_reducible apply FM);(first | exact r1H.out | exact r2H.out);simp only [Act.put,lsa,lsz,lss])
   refine hcl.out.mono ?_;rintro e w3 ⟨rfl,rfl⟩
   go_wp2_with fail
   go_ret
   exact ⟨_,o,rfl,hsH.out,by rw [hF.out.1];rfl,hF.out.2⟩
theorem Yr {w:World} {o:Own} {Z p:Nat} {m:RdM} (h:Ep w o Z p m) (hZ:Z ≠ 0) (hm:m.b.length ≤ 1000000) (n:Nat) (hn:n ≤ 4294967295) :
  Calls Tryz.prog 152 #[.pointer (some ⟨p,0,none⟩), .int .u64 (n:Int), .func (.func 153) #[] #[]] w (Ret (Only Z) w o fun v w' o'=>(Bytes w' o' v (m.txt n).1∧CV w.heap.size v)∧Ep w' o' Z p (m.txt n).2):=by
 obtain ⟨bv,h1,h2,h3⟩:=h
 obtain ⟨L,hL⟩:∃ L,m.b.length = L:=⟨_,rfl⟩
 have hni:(0:Int) ≤ (n:Int)∧(n:Int) ≤ 4294967295:=by omega
 have hLi:(0:Int) ≤ (L:Int)∧(L:Int) ≤ 1000000:=by omega
 have c0:w.cell? ⟨p,0,none⟩ = some bv:=cell_of_block (cs:=[_,_]) h1 0
 have c1:w.cell? ⟨p,1,none⟩ = some (.bool m.bad):=cell_of_block (cs:=[_,_]) h1 1
 have f0:w.frozen? ⟨p,0,none⟩ = false:=Ap (cs:=[_,_]) h1 0
 have f1:w.frozen? ⟨p,1,none⟩ = false:=Ap (cs:=[_,_]) h1 1
 have hck:=Tryz.call153
 obtain ⟨q,hq⟩:∃ q,m.take n = q:=⟨_,rfl⟩
 have hqH:=hidden hq
 unfold RdM.txt
 rw [hq]
 unfold RdM.take at hq
 have h0:¬ Only Z 0:=fun h=>hZ h.symm
 have hH:=hidden (And.intro h1 (And.intro h2 h3))
 obtain ⟨ba,bc,rfl⟩:=Aq h3
 cases hb:m.bad with
 | true =>
  rw [hb] at c1
  rw [if_pos hb] at hq
  have hF:=hidden (show q.1 = none∧Ep w o Z p q.2 from by rw [←hq];exact ⟨rfl,_,h1,h2,h3⟩)
  clear hq h1 h2 h3 hb
  go_enter Tryz.func152,Tryz.ntmps152
  go_wp2_with fail
  go_ret
  exact ⟨_,o,rfl,Step.refl _ _ _,by rw [hF.out.1];exact ⟨Bytes.nil _ _,CV.nil _ _ _⟩,hF.out.2⟩
 | false =>
  rw [hb] at c1
  rw [if_neg (by rw [hb];simp)] at hq
  by_cases hlt:L < n
  ·rw [if_pos (by omega)] at hq
   have hltI:(L:Int) < (n:Int):=by omega
   have hset:=(Step.refl (Only Z) w o).setCell (a:=⟨p,1,none⟩) (.bool true) (.inl (by show (o p).1 = Z;rw [h2]))
   have hF:=hidden (show q.1 = none∧Ep (w.setCell ⟨p,1,none⟩ (.bool true)) o Z p q.2 from by rw [←hq];exact ⟨rfl,_,Ai (cs:=[_,_]) (i:=1) _ h1,h2,h3.step hset h0⟩)
   have hsH:=hidden hset
   rw [hL] at c0
   clear hq h1 h2 h3 hb hset hH
   go_enter Tryz.func152,Tryz.ntmps152
   go_wp2_with fail
   go_ret
   exact ⟨_,o,rfl,hsH.out,by rw [hF.out.1];exact ⟨Bytes.nil _ _,CV.nil _ _ _⟩,hF.out.2⟩
  ·rw [if_neg (by omega)] at hq
   have hltI:¬ (L:Int) < (n:Int):=by omega
   obtain ⟨v1,r1,hb1⟩:=Nl h3 n (by omega)
   obtain ⟨v2,r2,hb2⟩:=Qp h3 n (by omega)
   obtain ⟨a2,d2,e2⟩:=Aq hb2
   rw [List.length_drop,hL] at e2
   obtain ⟨L2,hL2⟩:∃ L2,L - n = L2:=⟨_,rfl⟩
   rw [hL2] at e2
   subst e2
   clear hL2
   have hset:=(Step.refl (Only Z) w o).setCell (a:=⟨p,0,none⟩) (.slice a2 L2 d2) (.inl (by show (o p).1 = Z;rw [h2]))
   have hF:=hidden (show q.1 = some (m.b.take n)∧Ep (w.setCell ⟨p,0,none⟩ (.slice a2 L2 d2)) o Z p q.2 from by rw [←hq];exact ⟨rfl,_,Ai (cs:=[_,_]) (i:=0) _ h1,h2,hb2.step hset h0⟩)
   have hcl:=hidden (Xv (hb1.step hset h0) (by rw [List.length_take];omega))
   have hsH:=hidden hset
   have r1H:=hidden r1
   have r2H:=hidden r2
   rw [hL] at c0 r1H r2H
   clear hq h1 h2 h3 hb hset r1 r2 hb1 hb2 hH
   go_enter Tryz.func152,Tryz.ntmps152
   go_wp2_with ((with_reducible apply FM);(first | exact r1H.out | exact r2H.out);simp only [Act.put,lsa,lsz,lss])
   refine hcl.out.mono ?_;rintro e w3 ⟨v3,o3,rfl,hs3,hnb⟩
   go_wp2_with fail
   go_ret
   exact ⟨_,o3,rfl,hsH.out.trans (hs3.only Z),by rw [hF.out.1];exact ⟨hnb.bytes,hnb.fresh.low (by have:=hsH.out.size;omega)⟩,hF.out.2.step hs3 (fun h=>h) (fun h=>h)⟩

end Go.Proofs.YthmpmgknnibljaaGreat
