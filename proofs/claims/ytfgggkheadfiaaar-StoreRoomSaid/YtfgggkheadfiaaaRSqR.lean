/- The statement StoreRoom: the walk. -/
import Derived.Test.YtfgggkheadfiaaaRSq2
import Derived.Test.YtfgggkheadfiaaaRSq11
namespace Go.Proofs.YtfgggkheadfiaaaR
open Go Go.RowKit
attribute [local go_sem ↓] Go.wp_at_zero Go.wp_at_succ
def keptR (j : Nat) (tx : List UInt8) : KeptM := ⟨BitVec.ofNat 64 (2 * j), BitVec.ofNat 64 (2 * j), if j = 0 then [] else [⟨1#64, tx⟩]⟩
theorem keptR_ok (j : Nat) {tx : List UInt8} (h : tx.length ≤ 401) : KOk (keptR j tx) := by
  unfold keptR
  by_cases hj : j = 0
  · simp only [hj, if_true]; exact ⟨by simp, by simp⟩
  · simp only [hj, if_false]; exact ⟨by simp, by simp; omega⟩
theorem ofNat_small {k : Nat} (h : k ≤ 100000) : (BitVec.ofNat 64 k).toNat = k := by rw [BitVec.toNat_ofNat]; omega
theorem room_step {K H n j : Nat} {s : StoreM} {tx : List UInt8} (hG : SG K H s) (hl : s.d.left < 0) (hK : K + 700 < 65536) (hk : s.kept = keptR j tx) (hj : j ≤ 300) (h1 : 1 ≤ tx.length) (h401 : tx.length ≤ 401) (hn : n / 2 = H) :
    ∃ s1 s2, s.promise (BitVec.ofNat 64 (2 * j + 1)) = (s1, 0) ∧ SG (K + 3) H s1 ∧ KOk s1.kept ∧ s1.adopt (BitVec.ofNat 64 (2 * j + 2)) [⟨1#64, tx⟩] = (s2, 0) ∧ SG (K + 6) H s2 ∧ s2.kept = keptR (j + 1) tx ∧ s2.d.left < 0 ∧ s2.d.pages.length = s.d.pages.length := by
  have hok := keptR_ok j h401
  have hH := hG.h4
  have e0 := ofNat_small (k := 2 * j) (by omega)
  have e1 := ofNat_small (k := 2 * j + 1) (by omega)
  have e2 := ofNat_small (k := 2 * j + 2) (by omega)
  have hpo : s.kept.promiseOk (BitVec.ofNat 64 (2 * j + 1)) = true := by
    rw [hk]; unfold KeptM.promiseOk keptR
    simp only [e0, e1]; simp; omega
  have hn1 : s.kept.next ⟨0, BitVec.ofNat 64 (2 * j + 1), []⟩ = ({ s.kept with promised := BitVec.ofNat 64 (2 * j + 1) }, 0) := by
    show KeptM.promiseD _ _ = _
    unfold KeptM.promiseD; rw [if_pos hpo]
  have hfit : ∀ ls : List LineM, ls.length ≤ 1 → bytesL ls ≤ 401 → ∀ k : KeptM, k.lines = ls → k.fits n = true := fun ls q1 q2 k q3 => by
    unfold KeptM.fits fitsN
    rw [q3, hn]
    apply decide_eq_true; omega
  have hl1 : s.kept.lines.length ≤ 1 ∧ bytesL s.kept.lines ≤ 401 := by
    rw [hk]; unfold keptR
    by_cases hj0 : j = 0
    · simp [hj0, bytesL]
    · simp [hj0, bytesL]; omega
  obtain ⟨s1, a1, g1, k1, p1, l1⟩ := act_ok (n := n) hG hl (by omega) (by rw [hk]; exact hok) ⟨0, BitVec.ofNat 64 (2 * j + 1), []⟩ (by rw [hn1]) hn (by rw [hn1]; exact hfit s.kept.lines hl1.1 hl1.2 _ rfl)
  rw [hn1] at k1
  have ok1 : KOk s1.kept := by rw [k1, hk]; exact ⟨hok.n, hok.b⟩
  have hao : s1.kept.adoptOk (BitVec.ofNat 64 (2 * j + 2)) [⟨1#64, tx⟩] = true := by
    rw [k1, hk]; unfold KeptM.adoptOk keptR
    simp only [e0, e1, e2]
    have q1 : (1#64 : BitVec 64).toNat = 1 := rfl
    have hb : badL (BitVec.ofNat 64 (2 * j + 2)) ⟨1#64, tx⟩ = false := by
      unfold badL
      simp only [q1, e2]
      rw [decide_eq_false (by omega), decide_eq_false (by omega), decide_eq_false (by omega), decide_eq_false (by omega)]; rfl
    simp only [List.any_cons, hb, List.any_nil, List.length_cons, List.length_nil]
    simp; omega
  have hn2 : s1.kept.next ⟨1, BitVec.ofNat 64 (2 * j + 2), [⟨1#64, tx⟩]⟩ = (⟨BitVec.ofNat 64 (2 * j + 2), BitVec.ofNat 64 (2 * j + 2), [⟨1#64, tx⟩]⟩, 0) := by
    show KeptM.adoptD _ _ _ = _
    unfold KeptM.adoptD; rw [if_pos hao]
  obtain ⟨s2, a2, g2, k2, p2, l2⟩ := act_ok (n := n) g1 l1 (by omega) ok1 ⟨1, BitVec.ofNat 64 (2 * j + 2), [⟨1#64, tx⟩]⟩ (by rw [hn2]) hn (by rw [hn2]; exact hfit [⟨1#64, tx⟩] (by simp) (by simp [bytesL]; omega) _ rfl)
  rw [hn2] at k2
  refine ⟨s1, s2, a1, g1, ok1, a2, g2, ?_, l2, p2.trans p1⟩
  rw [k2]; unfold keptR
  rw [if_neg (by omega)]
  rfl
set_option maxRecDepth 100000 in
set_option maxHeartbeats 12800000 in
theorem storeRoom_main {w : World} {o : Own} (n t : Nat) (h8 : 8 ≤ n) (h40 : n ≤ 40) (ht : t ≤ 65535) {v : Value} {l : List UInt8} (hl : Bytes w o v l) (hl4 : l.length ≤ 400) :
    Calls Try.prog 15 #[.int .i64 (n : Int), .int .u16 (t : Int), v] w (Ret Nobody w o fun v _ _ => v = .bool true) := by
  obtain ⟨M, -, hM⟩ := tag_bound o 0 w.heap.size
  have nn : ∀ k, ¬ Nobody k := fun _ h => h
  have hT0 : ¬ Above M 0 := fun h => by change M < 0 at h; omega
  obtain ⟨D, hD⟩ : ∃ D, D = M + 1 := ⟨_, rfl⟩
  have hD0 : D ≠ 0 := by omega
  have htg := tags_new (Mx := D) (D := D) (Nat.le_refl _) hD0
  have h4 := in4_above (M := M) (Mx := D) (D := D) (by omega) (by omega)
  have hD1 : ∀ k, D < k → M < k := fun k hk => by omega
  obtain ⟨H, hH⟩ : ∃ H, n / 2 = H := ⟨_, rfl⟩
  obtain ⟨ba, bc, rfl⟩ := slc_form hl
  obtain ⟨N, hN⟩ : ∃ N, l.length = N := ⟨_, rfl⟩
  have hlH := hidden (show Bytes w o (.slice ba N bc) l from hN ▸ hl)
  rw [hN] at hl4 ⊢
  obtain ⟨tx, htx⟩ : ∃ tx, 120 :: l = tx := ⟨_, rfl⟩
  have htl : tx.length = N + 1 := by rw [← htx, List.length_cons, hN]
  have htxH := hidden htx
  have hNH := hidden hN
  have h8I : ¬ (n : Int) < 8 := by omega
  have h2I : ¬ (40 : Int) < (n : Int) := by omega
  have hNI : ¬ (400 : Int) < (N : Int) := by omega
  have hG0 := newS_sg (n := n) h8 (by omega)
  rw [hH] at hG0
  have hG0H := hidden hG0
  have hHH := hidden hH
  have htlH := hidden (show 1 ≤ tx.length ∧ tx.length ≤ 401 by omega)
  obtain ⟨R, hR⟩ : ∃ R, t % 301 = R := ⟨_, rfl⟩
  have hRI : (t : Int) % 301 = (R : Int) := by omega
  have htI : (0 : Int) ≤ (t : Int) ∧ (t : Int) ≤ 65535 := by omega
  have hR300 : R ≤ 300 := by omega
  clear hl hN hD hG0 hH htx htl hR
  have hnew := new_ok n w o D (by omega) (by omega)
  go_enter Try.func15, Try.ntmps15
  go_wp2_with fail
  refine hnew.mono ?_; rintro e W1 ⟨v, o1, rfl, hs, pd, -, rfl, hd⟩
  have hst := hs.above0 (M := M)
  have hop := opens_any D (Nat.le_refl _) hD0 hG0H.out (by omega) (by simp [newS, DiskM.new]; omega) (t := newS n) hd
  clear hnew hs hd
  go_wp2_with fail
  refine hop.mono ?_; rintro e W2 ⟨v, o2, rfl, hs, ps, rfl, ha⟩
  have hst := hidden (hst.trans (hs.mono hD1))
  have haH := hidden ha
  clear hop hs ha
  go_wp2_with fail
  rw [hRI]
  clear hRI
  go_loopw [12] (fun i wr => ∃ (j m : Nat) (oj : Own) (s : StoreM), m = j + 1 ∧ j ≤ R ∧ i = .int .i64 (m : Int) ∧ StoreAt wr oj (D + 1) (D + 2) (D + 3) D ps pd 0 s ∧ Step (Above M) w o wr oj ∧ SG (6 * j) H s ∧ s.kept = keptR j tx ∧ s.d.left < 0 ∧ s.d.pages.length = n) (fun i _ => R + 1 - (intOf i).toNat)
  case atStart => exact ⟨0, 1, o2, newS n, rfl, Nat.zero_le _, rfl, haH.out, hst.out, hG0H.out, rfl, by show (-1 : Int) < 0; omega, by simp [newS, DiskM.new]⟩
  case round =>
    clear hst haH
    obtain ⟨j, m, oj, s, hm, hj, rfl, ha, hst, hG, hk, hlf, hpl⟩ := hrel
    have hsH := hidden (And.intro hG (And.intro hk (And.intro hlf hpl)))
    have hmH := hidden hm
    clear hG hk hlf hpl
    by_cases hlt : j < R
    · have hltI : (m : Int) ≤ (R : Int) := by omega
      have hmI : (1 : Int) ≤ (m : Int) ∧ (m : Int) ≤ 300 := by omega
      obtain ⟨hG, hk, hlf, hpl⟩ := hsH.out
      obtain ⟨s1, s2, a1, g1, ok1, a2, g2, k2, l2, p2⟩ := room_step hG hlf (by omega) hk (by omega) htlH.out.1 htlH.out.2 hHH.out
      have hok : KOk s.kept := by rw [hk]; exact keptR_ok j htlH.out.2
      have hp := promise_is htg ha hG hok (BitVec.ofNat 64 (2 * j + 1)) a1
      rw [ofNat_small (by omega)] at hp
      have hpH := hidden (show Calls Try.prog 61 #[.pointer (some ⟨ps, 0, none⟩), .int .u64 (2 * (m : Int) - 1)] wr _ from (show (((2 * j + 1 : Nat)) : Int) = 2 * (m : Int) - 1 by omega) ▸ hp)
      have hs2H := hidden (And.intro (g2.mono (show 6 * j + 6 ≤ 6 * (j + 1) by omega)) (And.intro k2 (And.intro l2 (p2.trans hpl))))
      have hnx := hidden (And.intro g1 (And.intro ok1 a2))
      have hstH := hidden hst
      clear hG hk hlf hpl a1 g1 ok1 a2 g2 k2 l2 p2 hok hp ha hst hm hlt
      go_wp2_with fail
      refine hpH.out.mono ?_; rintro e w3 ⟨v3, o3, rfl, hs3, rfl, ha3⟩
      have hst3 := hstH.out.trans (hs3.mono h4)
      have hb3 := hlH.out.step hst3 hT0
      have hcv : (convert 28 9 (.slice ba N bc)).run Try.prog w3 = .ok (.string ⟨l.toArray⟩) w3 := conv_string hb3
      have hsz : (⟨l.toArray⟩ : ByteArray).size = N := by simp [ByteArray.size, hNH.out]
      have hsz1 : (⟨#[120]⟩ : ByteArray).size = 1 := rfl
      have hap : (⟨#[120]⟩ : ByteArray) ++ (⟨l.toArray⟩ : ByteArray) = ⟨tx.toArray⟩ := by
        rw [← htxH.out]
        apply ByteArray.ext; simp
      have hNI2 : (N : Int) ≤ 400 := by omega
      have hln := line_any w3 o3 1#64 tx (by have := htlH.out.2; omega)
      rw [u64_1] at hln
      have hln : Calls Try.prog 63 #[.int .u64 1, .string ⟨tx.toArray⟩] w3 (Ret Nobody w3 o3 fun v w' o' => Lines w' o' 0 v [⟨1#64, tx⟩]) := hln
      have hln := hidden hln
      have hR3 := hidden (And.intro ha3 hst3)
      clear hs3 ha3 hst3 hb3 hpH hstH
      go_wp2_with fail
      refine hln.out.mono ?_; rintro e w4 ⟨v4, o4, rfl, hs4, hl4⟩
      have ha4 := hR3.out.1.step0 hs4
      have hst4 := hR3.out.2.trans hs4.above0
      obtain ⟨g1, ok1, a2⟩ := hnx.out
      have hp := adopt_is htg ha4 g1 (BitVec.ofNat 64 (2 * j + 2)) hl4 (by simp) a2
      rw [ofNat_small (by omega)] at hp
      obtain ⟨la, lc, rfl⟩ := hl4.form
      have hmq := hmH.out
      have hpH := hidden (show Calls Try.prog 62 #[.pointer (some ⟨ps, 0, none⟩), .int .u64 (2 * (m : Int)), .slice la 1 lc] w4 _ from (show (((2 * j + 2 : Nat)) : Int) = 2 * (m : Int) by omega) ▸ hp)
      clear hcv hsz hsz1 hap hln hR3 hs4 hl4 ha4 g1 ok1 a2 hp hnx hmq
      go_wp2_with fail
      refine hpH.out.mono ?_; rintro e w5 ⟨v5, o5, rfl, hs5, rfl, ha5⟩
      have hF := hidden (And.intro ha5 (hst4.trans (hs5.mono h4)))
      clear hs5 ha5 hst4 hpH
      go_wp2_with fail
      go_roundw
      case rel => exact ⟨j + 1, m + 1, o5, s2, by have := hmH.out; omega, by have := hmH.out; omega, by go_num, hF.out.1, hF.out.2, hs2H.out.1, hs2H.out.2.1, hs2H.out.2.2.1, hs2H.out.2.2.2⟩
      case measure => simp [intOf]; omega
    · obtain rfl : j = R := by omega
      have hltI : ¬ (m : Int) ≤ (j : Int) := by have := hmH.out; omega
      obtain ⟨hG, hk, hlf, hpl⟩ := hsH.out
      have hok : KOk s.kept := by rw [hk]; exact keptR_ok j htlH.out.2
      have hkp := skept_any ha hok.small
      rw [hk] at hkp
      have hcr : ((keptR j tx).promised.toNat : Int) = 2 * (j : Int) ∧ ((keptR j tx).current.toNat : Int) = 2 * (j : Int) := by
        have : (keptR j tx).promised.toNat = 2 * j := ofNat_small (by omega)
        have h2 : (keptR j tx).current.toNat = 2 * j := ofNat_small (by omega)
        omega
      unfold keptV at hkp
      rw [hcr.1, hcr.2] at hkp
      have hkpH := hidden hkp
      clear hG hk hlf hpl hok hkp hcr hsH hm
      go_wp2_with fail
      refine hkpH.out.mono ?_; rintro e w4 ⟨v4, o4, rfl, hs4, lv, rfl, hl4, -⟩
      have hst4 := hst.trans hs4.above0
      obtain ⟨la, lc, rfl⟩ := hl4.form
      obtain ⟨kl, hkl⟩ : ∃ kl, (keptR j tx).lines.length = kl := ⟨_, rfl⟩
      have hklI : j = 0 ∧ kl = 0 ∨ 0 < j ∧ kl = 1 := by
        rw [← hkl]; unfold keptR
        by_cases hj0 : j = 0
        · left; simp [hj0]
        · right; simp [hj0]; omega
      rw [hkl]
      have hal := hidden (run_alloc_zero (P := Try.prog) w4 108 _ zc108)
      have hsw := setCells_alloc_whole w4 #[.int .u64 0, .int .u64 0, .slice none 0 0] 108 [.int .u64 (2 * (j : Int)), .int .u64 (2 * (j : Int)), .slice la kl lc] rfl
      obtain ⟨hso, -⟩ := run_store_agg (P := Try.prog) (ty := 108) (vs := [.int .u64 (2 * (j : Int)), .int .u64 (2 * (j : Int)), .slice la kl lc]) (heap_alloc_new w4 (.cells [.int .u64 0, .int .u64 0, .slice none 0 0].toArray 108)) rfl (by kernel_rfl) rfl
      rw [hsw] at hso
      have hsoH := hidden hso
      have sE := (Step.refl Nobody w4 o4).alloc (.cells [.int .u64 (2 * (j : Int)), .int .u64 (2 * (j : Int)), .slice la kl lc].toArray 108) (0, 0)
      have bE : (w4.alloc (.cells [.int .u64 (2 * (j : Int)), .int .u64 (2 * (j : Int)), .slice la kl lc].toArray 108)).heap[w4.heap.size]? = some (.cells [.int .u64 (2 * (j : Int)), .int .u64 (2 * (j : Int)), .slice la kl lc].toArray 108 (0, 0)) := heap_alloc_new w4 _
      have c1 := cell_of_block bE 1
      have c2 := cell_of_block bE 2
      simp only [List.getElem?_cons_zero, List.getElem?_cons_succ] at c1 c2
      have hst5 := hidden (hst4.trans sE.above0)
      obtain ⟨WE, hWE⟩ : ∃ WE, w4.alloc (.cells [.int .u64 (2 * (j : Int)), .int .u64 (2 * (j : Int)), .slice la kl lc].toArray 108) = WE := ⟨_, rfl⟩
      rw [hWE] at hsoH c1 c2 hst5
      generalize tagAt o4 w4.heap.size (0, 0) = oE at hst5
      have hke := hidden (keeps_any WE oE)
      have hjI : (0 : Int) ≤ (j : Int) ∧ (j : Int) ≤ 300 := by omega
      clear hsw hso sE bE hWE hs4 hkpH hl4 hst4 hkl ha hst
      rcases hklI with ⟨hj0, rfl⟩ | ⟨hj0, rfl⟩
      · subst hj0
        go_wp2_with (first
          | ((with_reducible refine lit_alloc_at hal.out ?_); simp only [Act.put, List.setIfInBounds_toArray, List.set_cons_zero, List.set_cons_succ])
          | ((with_reducible refine lit_store_at hsoH.out ?_ ?_ ?_); rfl; rfl; simp only [Act.put]))
        refine hke.out.mono ?_; rintro e Wc ⟨v, oc, rfl, hs, rfl⟩
        have hst := hst5.out.trans (hs.above0 (M := M))
        clear hs hke
        go_wp2_with fail
        go_ret
        exact ⟨_, oc, rfl, hst.noneAbove hM, rfl⟩
      · have hj0I : ((j : Int) == 0) = false := by simp; omega
        go_wp2_with (first
          | ((with_reducible refine lit_alloc_at hal.out ?_); simp only [Act.put, List.setIfInBounds_toArray, List.set_cons_zero, List.set_cons_succ])
          | ((with_reducible refine lit_store_at hsoH.out ?_ ?_ ?_); rfl; rfl; simp only [Act.put]))
        refine hke.out.mono ?_; rintro e Wc ⟨v, oc, rfl, hs, rfl⟩
        have hst := hst5.out.trans (hs.above0 (M := M))
        clear hs hke
        go_wp2_with fail
        go_ret
        exact ⟨_, oc, rfl, hst.noneAbove hM, rfl⟩
set_option maxRecDepth 100000 in
theorem storeRoom_out {w : World} {o : Own} (n t : Int) (N : Nat) (ba : Option Addr) (bc : Nat) (hn : (n < 8 ∨ 40 < n) ∨ 400 < N) : Calls Try.prog 15 #[.int .i64 n, .int .u16 t, .slice ba N bc] w (Ret Nobody w o fun v _ _ => v = .bool true) := by
  by_cases h8 : n < 8
  · clear hn
    go_enter Try.func15, Try.ntmps15
    go_wp2_with fail
    go_ret
    exact ⟨_, o, rfl, Step.refl _ _ _, rfl⟩
  · by_cases h2 : 40 < n
    · clear hn
      go_enter Try.func15, Try.ntmps15
      go_wp2_with fail
      go_ret
      exact ⟨_, o, rfl, Step.refl _ _ _, rfl⟩
    · have h3 : (400 : Int) < (N : Int) := by omega
      clear hn
      go_enter Try.func15, Try.ntmps15
      go_wp2_with fail
      go_ret
      exact ⟨_, o, rfl, Step.refl _ _ _, rfl⟩
theorem storeRoom_walk {w : World} {o : Own} (n t : Int) (h0 : 0 ≤ t) (h1 : t ≤ 65535) {v : Value} {l : List UInt8} (hl : Bytes w o v l) :
    Calls Try.prog 15 #[.int .i64 n, .int .u16 t, v] w (Ret Nobody w o fun v _ _ => v = .bool true) := by
  by_cases h : (n < 8 ∨ 40 < n) ∨ 400 < l.length
  · obtain ⟨ba, bc, rfl⟩ := slc_form hl
    generalize l.length = N at *
    exact storeRoom_out n t N ba bc h
  · obtain ⟨m, rfl⟩ : ∃ m : Nat, n = m := ⟨n.toNat, by omega⟩
    obtain ⟨q, rfl⟩ : ∃ q : Nat, t = q := ⟨t.toNat, by omega⟩
    exact storeRoom_main m q (by omega) (by omega) (by omega) hl (by omega)
end Go.Proofs.YtfgggkheadfiaaaR
/- The statement StoreRoom, for every input; no conditions. -/
namespace Go.Proofs.YtfgggkheadfiaaaR
open Go Go.RowKit Go.ChangeShapes Go.WideShapes Go.ChangeAt

/-! ### StoreRoom -/
set_option maxRecDepth 100000 in
theorem storeRoom_lifted (os : Os) (started : os.Started) (H : Type) (enc : TypeId × Value → H) :
    ReturnsInHanded {} Try.checked os 15 .any (Rows.storeRoomSpec.pre6 enc Try.prog Try.f15 Rows.storeRoomRow.domain false) (Rows.storeRoomSpec.post enc Try.prog Try.f15 false true false false) := by
  refine returnsInHanded_of_change (C := Try.checked) ownKnobs started (by kernel_rfl) Try.func15
    (ChangeSpec.witness6 (enc := enc) (C := Try.checked) false ⟨#[], #[.int .i64 0, .int .u16 0, .slice none 0 0], []⟩ 8 (by kernel_rfl) (by kernel_rfl) (by kernel_rfl) (by kernel_rfl)) ?_
  intro W base args ds gs before hval0 hW hcnd _
  have hval : ∀ (j : Nat) t v, Try.f15.params[j]? = some t → args[j]? = some v → Value.okWide Try.prog W .any base t v := hval0
  have hW' := hW
  obtain ⟨p, q, hA0, hV, rfl, hfz, hnd⟩ := hW
  have hA : DataW.TrodAll enc Try.prog W 0 (fun _ => true) true Try.f15.params.toList args.toList ds p := hA0
  rw [Try.params15] at hA hval
  obtain ⟨v0, v1, v2, d0, d1, d2, p0, p1, p2, rfl, rfl, rfl, h0, h1, h2⟩ := trodAll_three hA
  obtain ⟨a0, rfl, rfl, rfl, w0⟩ := open_int Try.underlying3 (hval 0 3 v0 rfl rfl) h0
  obtain ⟨a1, rfl, rfl, rfl, w1⟩ := open_int Try.underlying63 (hval 1 63 v1 rfl rfl) h1
  obtain ⟨a2, n2, c2, rfl⟩ := okWide_slice Try.underlying28 (hval 2 28 v2 rfl rfl)
  obtain ⟨f2, h2⟩ := h2
  obtain ⟨l, hl⟩ := read_bytes9 h2
  obtain ⟨rfl, rfl⟩ := trodVars_none hV
  clear hA0 hval0
  refine (storeRoom_walk a0 a1 (bounds_u16 w1).1 (bounds_u16 w1).2 hl).mono fun e W' he => ?_
  obtain ⟨v, o', rfl, hs, rfl⟩ := he
  exact ⟨_, rfl, law_post laidOutTry (by kernel_rfl) rfl Try.underlying4 hW' rfl rfl rfl rfl rfl hs.below⟩

/-- THE STATEMENT. -/
theorem storeRoom_holds : Rows.StoreRoomSaid :=
  OpenClaim.holds_of_wide 15 Try.f15 rfl rfl rfl rfl rfl rfl rfl ⟨rfl, rfl, rfl, rfl, rfl⟩ rfl rfl rfl rfl rfl (by kernel_rfl) Try.func15 (by kernel_rfl)
    (of_decide_eq_true (by kernel_rfl)) (by unfold Func.isWrapper; first | (rw [if_pos (by decide +kernel)]; kernel_rfl) | (rw [if_neg (by decide +kernel)]; exact ⟨rfl, rfl⟩))
    (fun os started H enc _ => storeRoom_lifted os started H enc)
#print axioms storeRoom_holds
end Go.Proofs.YtfgggkheadfiaaaR
