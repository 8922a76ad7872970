/- Contract of the document's answer of layer 8: Commit. -/
import Derived.Test.YtfgggkheadfiaaaRPg8
import Derived.Test.YtfgggkheadfiaaaRPg10
namespace Go.Proofs.YtfgggkheadfiaaaR
open Go Go.RowKit
open LogM (many putPages headPages ofPages)
attribute [local go_sem ↓] Go.wp_at_zero Go.wp_at_succ

def rput (R : List (List UInt8)) (e : Nat) (T : BitVec 64) (b : List UInt8) : Nat → List (List UInt8)
  | 0 => R
  | k + 1 => (rput R e T b k).set (e + k) (LeafM.page ⟨T, k, many b, LogM.part b k⟩)
theorem length_rput (R : List (List UInt8)) (e : Nat) (T : BitVec 64) (b : List UInt8) (k : Nat) : (rput R e T b k).length = R.length := by
  induction k with
  | zero => rfl
  | succ k ih => simp [rput, ih]
theorem rput_step (R : List (List UInt8)) (e : Nat) (T : BitVec 64) (b : List UInt8) (M k : Nat) (_h : k < M) (hM : many b = M) : (rput R e T b k).set (e + k) (LeafM.page ⟨T, k, M, LogM.part b k⟩) = rput R e T b (k + 1) := by rw [← hM]; rfl
theorem get_rput (R : List (List UInt8)) (e : Nat) (T : BitVec 64) (b : List UInt8) (k : Nat) (h : e + k ≤ R.length) (j : Nat) : (rput R e T b k)[j]? = if e ≤ j ∧ j < e + k then some (LeafM.page ⟨T, j - e, many b, LogM.part b (j - e)⟩) else R[j]? := by
  induction k with
  | zero => rw [if_neg (by omega)]; rfl
  | succ k ih =>
    show ((rput R e T b k).set (e + k) _)[j]? = _
    rw [List.getElem?_set]
    by_cases hj : e + k = j
    · subst hj
      rw [if_pos rfl, if_pos (by rw [length_rput]; omega), if_pos (by omega), Nat.add_sub_cancel_left]
    · rw [if_neg hj, ih (by omega)]
      by_cases h2 : e ≤ j ∧ j < e + k
      · rw [if_pos h2, if_pos (by omega)]
      · rw [if_neg h2, if_neg (by omega)]
theorem rput_all (R : List (List UInt8)) (e : Nat) (T : BitVec 64) (b : List UInt8) (h : e + many b ≤ R.length) : rput R e T b (many b) = putPages R e T b := by
  apply List.ext_getElem?
  intro j
  rw [get_rput R e T b _ h, LogM.get_putPages]
  by_cases hj : j < R.length
  · rw [if_pos hj]
  · rw [if_neg hj, if_neg (by omega)]
    exact List.getElem?_eq_none (by omega)

/-- Where to split the world of a call that was made with another own map. -/
theorem Step.merge {w w' : World} {o o1 o' : Own} (h : Step Nobody w o1 w' o') (o2 : Own) (h2 : ∀ k, k < w.heap.size → o2 k = o k) : Step Nobody w o w' o2 :=
  ⟨h.os, h.tape, h.output, h.size, h2, fun k hk _ => h.block k hk (fun h => h)⟩
theorem RefL.records {w : World} {o : Own} {E p : Nat} {R : List (List UInt8)} {S : BitVec 64} (h : RefL w o E p R S) :
    ∃ g cap, w.cell? ⟨p, 0, none⟩ = some (.slice (some ⟨g, 0, none⟩) R.length cap) ∧ Calls Try.prog 90 #[.slice (some ⟨g, 0, none⟩) R.length cap] w (Ret Nobody w o fun v w' o' => RecsV R w w' v ∧ ∀ k, w.heap.size ≤ k → o' k = (0, 0)) := by
  obtain ⟨g, cap, cur, h1, h2, h3, h4, h5, h6, h7, h8, h9, h10⟩ := h
  have hg := lt_of_block h2
  refine ⟨g, cap, cell_of_block (cs := [_, _]) h1 0, ?_⟩
  have hs : Slc w (tagAt o g (0, 0)) (.slice (some ⟨g, 0, none⟩) R.length cap) R.length (tvs R) := by
    refine .inr ⟨g, 0, cap, rfl, h4, h5, by rw [tagAt_same], hg, ?_⟩
    have : w.rangeAt g 0 ((cur.drop 0).take R.length) := range_of_block h2 0 R.length
    rw [List.drop_zero, h3] at this
    exact this
  refine (rrecords_any hs h10 h8 h9).mono ?_
  rintro e w2 ⟨v, o2, rfl, hs2, hv⟩
  exact ⟨v, ext w o, rfl, hs2.merge _ (fun k hk => if_pos hk), hv, fun k hk => if_neg (by omega)⟩
theorem wrapI {x : Int} (h : 0 ≤ x ∧ x < 1000000000) : IntKind.i64.wrap x = x := by simp [IntKind.wrap, IntKind.bits, IntKind.signed]; omega
theorem RefL.cells {w : World} {o : Own} {E p : Nat} {R : List (List UInt8)} {S : BitVec 64} (h : RefL w o E p R S) :
    w.cell? ⟨p, 1, none⟩ = some (.int .u64 (S.toNat : Int)) ∧ w.frozen? ⟨p, 1, none⟩ = false := by
  obtain ⟨g, cap, cur, h1, -⟩ := h
  exact ⟨cell_of_block (cs := [_, _]) h1 1, free_of_block (cs := [_, _]) h1 1⟩
theorem RefL.restamp {w : World} {o : Own} {E p : Nat} {R : List (List UInt8)} {S : BitVec 64} (h : RefL w o E p R S) (T : BitVec 64) :
    RefL (w.setCell ⟨p, 1, none⟩ (.int .u64 (T.toNat : Int))) o E p R T ∧ Step (Only E) w o (w.setCell ⟨p, 1, none⟩ (.int .u64 (T.toNat : Int))) o := by
  obtain ⟨g, cap, cur, h1, h2, h3, h4, h5, h6, h7, h8⟩ := h
  have hpg : g ≠ p := by rintro rfl; rw [h6] at h7; simp at h7
  exact ⟨⟨g, cap, cur, heap_setCell_at (cs := [_, _]) (i := 1) _ h1, by rw [Below.heap_setCell _ _ _ _ hpg]; exact h2, h3, h4, h5, h6, h7, h8⟩, (Step.refl (Only E) w o).setCell (a := ⟨p, 1, none⟩) _ (.inl (by show (o p).1 = E; rw [h6]))⟩
def rcommit (b : List UInt8) (R : List (List UInt8)) (S : BitVec 64) : (List (List UInt8) × BitVec 64) × Int :=
  if R.length < (ofPages 0 R).end' + many b then ((R, S), 4)
  else if (ofPages 0 R).headed then ((putPages R (ofPages 0 R).end' (S + 1#64) b, S + 1#64), 0)
  else ((putPages (headPages R (S + 1#64)) (ofPages 0 R).end' (S + 1#64 + 1#64) b, S + 1#64 + 1#64), 0)
set_option maxRecDepth 100000 in
set_option maxHeartbeats 3200000 in
theorem rcommit_any {w : World} {o : Own} {E p : Nat} {R : List (List UInt8)} {S : BitVec 64} (h : RefL w o E p R S) (hE : E ≠ 0) (b : List UInt8) (hb : b.length ≤ 100000) :
    Calls Try.prog 42 #[.pointer (some ⟨p, 0, none⟩), str b] w (Ret (Only E) w o fun v w' o' => v = .int .i64 (rcommit b R S).2 ∧ RefL w' o' E p (rcommit b R S).1.1 (rcommit b R S).1.2) := by
  obtain ⟨g0, cap0, c0, hrec⟩ := h.records
  have hlen := fun W => run_len_str W b (by omega)
  obtain ⟨B, hB⟩ : ∃ B, b.length = B := ⟨_, rfl⟩
  obtain ⟨N, hN⟩ : ∃ N, R.length = N := ⟨_, rfl⟩
  rw [hB] at hlen hb
  rw [hN] at c0 hrec
  have hN12 : 1 ≤ N ∧ N ≤ 2000 := by obtain ⟨g, cap, cur, -, -, -, -, -, -, -, h8, h9, -⟩ := h; omega
  have hlenH := hidden hlen
  have hrecH := hidden hrec
  have hM : max 1 ((B + 479) / 480) = many b := by unfold LogM.many; rw [hB]
  obtain ⟨M, hMM⟩ : ∃ M, many b = M := ⟨_, rfl⟩
  rw [hMM] at hM
  have hBH := hidden hB
  have hMH := hidden hMM
  have hRH := hidden h
  have hNH := hidden hN
  clear hlen hrec hB hN hMM h
  go_enter Try.func42, Try.ntmps42
  go_wp2_with fail
  refine hrecH.out.mono ?_
  rintro e w2 ⟨v, o2, rfl, hs2, ⟨rv, rfl, hown⟩, hnew⟩
  have hr2 := hRH.out.step hs2 (fun h => h)
  obtain ⟨g, cap, cur, h1, -⟩ := id hr2
  rw [hNH.out] at h1
  have c0' : w2.cell? ⟨p, 0, none⟩ = some (.slice (some ⟨g, 0, none⟩) N cap) := cell_of_block (cs := [_, _]) h1 0
  have hel := LogM.end_le 0 R (by rw [hNH.out]; exact hN12.1)
  have hr2H := hidden hr2
  have hs2H := hidden hs2
  clear hr2 hs2 hown hnew h1 hRH hrecH c0
  obtain ⟨e, he⟩ : ∃ e, (ofPages 0 R).end' = e := ⟨_, rfl⟩
  obtain ⟨hd, hhd⟩ : ∃ hd, (ofPages 0 R).headed = hd := ⟨_, rfl⟩
  rw [he, hNH.out] at hel
  rw [he, hhd]
  have heH := hidden he
  have hhdH := hidden hhd
  clear he hhd
  have hln := hlenH.out w2
  have hMa : M < 300 := by omega
  by_cases hz : B = 0
  · have hq : (((B : Int) + 479) / 480 == 0) = true := by rw [beq_iff_eq]; omega
    have hMe : M = 1 := by omega
    subst hMe
    have hroomN : N < e + 1 ∨ e + 1 ≤ N := by omega
    rcases hroomN with hfull | hfull
    · have hfI : (N : Int) < (e : Int) + 1 := by omega
      go_wp2_with fail
      go_ret
      have hrc : rcommit b R S = ((R, S), 4) := by unfold rcommit; rw [heH.out, hMH.out, hNH.out, if_pos hfull]
      exact ⟨_, o2, rfl, hs2H.out.only E, by rw [hrc]; rfl, by rw [hrc]; exact hr2H.out⟩
    · have hfI : (e : Int) + 1 ≤ (N : Int) := by omega
      cases hd with
      | true =>
        obtain ⟨T, hT⟩ : ∃ T, S + 1#64 = T := ⟨_, rfl⟩
        have hinc := wrap_inc S
        rw [hT] at hinc
        have hincH := hidden hinc
        obtain ⟨hc1, hf1⟩ := hr2H.out.cells
        have hrs := hr2H.out.restamp T
        have hst1 := (hs2H.out.only E).trans hrs.2
        have hstart := hidden (And.intro hrs.1 hst1)
        have hrc : rcommit b R S = ((putPages R e T b, T), 0) := by unfold rcommit; rw [heH.out, hMH.out, hNH.out, hhdH.out, if_neg (by omega), if_pos rfl]; rw [← hT]
        have hR1 : Hid ((R).length = N ∧ e + 1 ≤ N) := hidden ⟨hNH.out, hfull⟩
        have hrcH := hidden hrc
        have hputs := hidden (rput_all (R) e T b (by rw [hR1.out.1, hMH.out]; exact hfull))
        clear hinc hrs hst1 hrc hT
        go_wp2_with fail
        rw [hincH.out]
        generalize w2.setCell ⟨p, 1, none⟩ (.int .u64 (T.toNat : Int)) = W1 at *
        clear hc1 hf1
        go_wp2_with fail
        (try rw [hMe])
        go_loopw [9] (fun i wr => ∃ k : Nat, k ≤ 1 ∧ i = .int .i64 k ∧ ∃ o', RefL wr o' E p (rput R e T b k) T ∧ Step (Only E) w o wr o')
          (fun i _ => 1 - (intOf i).toNat)
        case atStart => exact ⟨0, Nat.zero_le _, rfl, o2, hstart.out.1, hstart.out.2⟩
        case round =>
          clear hstart
          obtain ⟨k, hk, rfl, o', hr, hst⟩ := hrel
          by_cases hlt : k < 1
          · have hstep := rput_step R e T b 1 k hlt hMH.out
            have hlen := length_rput R e T b k
            obtain ⟨g, cap, cur, h1, h2, h3, h4, h5, h6, h7, h8, h9, h10⟩ := hr
            have hpg : p ≠ g := by rintro rfl; rw [h6] at h7; simp at h7
            have hNk : (rput R e T b k).length = N := hlen.trans hR1.out.1
            have heN := hR1.out.2
            generalize rput R e T b k = Rk at *
            have c0 : wr.cell? ⟨p, 0, none⟩ = some (.slice (some ⟨g, 0, none⟩) N cap) := by rw [cell_of_block (cs := [_, _]) h1 0, ← hNk]; rfl
            have c1 : wr.cell? ⟨p, 1, none⟩ = some (.int .u64 (T.toNat : Int)) := cell_of_block (cs := [_, _]) h1 1
            obtain ⟨x0, hx0⟩ : ∃ x0, cur[e + k]? = some x0 := by
              have : (cur.take Rk.length)[e + k]? = (tvs Rk)[e + k]? := by rw [h3]
              rw [List.getElem?_take, if_pos (by omega)] at this
              exact ⟨_, this.trans (List.getElem?_eq_getElem (by rw [length_tvs]; omega))⟩
            have hpl : (LogM.part b k).length ≤ 480 := by simp only [LogM.part, List.length_take]; omega
            have hleaf := fun W O => rleaf_any ⟨T, k, 1, LogM.part b k⟩ hpl (by show k ≤ 65535; omega) (by show 1 ≤ 65535; omega) W O
            obtain ⟨ek, hek⟩ : ∃ ek, e + k = ek := ⟨_, rfl⟩
            have hekI : (e : Int) + (k : Int) = (ek : Int) := by omega
            obtain ⟨lo, hloE⟩ : ∃ lo, 480 * k = lo := ⟨_, rfl⟩
            obtain ⟨hi, hhiE⟩ : ∃ hi, min b.length (480 * k + 480) = hi := ⟨_, rfl⟩
            have hloI : (480 : Int) * (k : Int) = (lo : Int) := by omega
            have hhiI : (hi = lo + 480 ∧ lo + 480 ≤ B) ∨ (hi = B ∧ B ≤ lo + 480) := by rw [← hhiE, hBH.out, hloE]; omega
            have hpart : LogM.part b k = (b.drop lo).take (hi - lo) := by
              unfold LogM.part
              rw [hloE, ← hhiE, hBH.out, hloE]
              by_cases hc : lo + 480 ≤ B
              · rw [Nat.min_eq_right hc]; congr 1; omega
              · rw [Nat.min_eq_left (by omega), List.take_of_length_le (by rw [List.length_drop, hBH.out]; omega), List.take_of_length_le (by rw [List.length_drop, hBH.out]; omega)]
            have hrp := fun W => run_str_part W b lo hi (by rw [← hhiE, hBH.out, hloE]; omega) (by rw [← hhiE]; omega)
            have hput := fun (w2 : World) (o2 : Own) (hs2 : Step Nobody wr o' w2 o2) => (RefL.put ((hs2.block p (lt_of_block h1) (fun h => h)).trans h1) ((hs2.block g (lt_of_block h2) (fun h => h)).trans h2) h3 h4 h5 ((hs2.own p (lt_of_block h1)).trans h6) ((hs2.own g (lt_of_block h2)).trans h7) h8 h9 h10 (e + k) (LeafM.page ⟨T, k, 1, LogM.part b k⟩) (LeafM.length_page hpl))
            rw [hek] at hstep; simp only [hek, hstep] at hput
            have hI := hidden (And.intro hloI (And.intro hhiI hekI))
            have hputH := hidden hput
            (try simp only [Nat.cast_one] at hleaf)
            have hleafH := hidden hleaf
            have hrpH := hidden hrp
            have hpartH := hidden hpart
            have h1H := hidden h1
            have h2H := hidden h2
            have h7H := hidden h7
            rw [hek] at hx0
            have hx0H := hidden hx0
            have hlo1 : lo ≤ 1000000 := by omega
            have hek1 : ek ≤ 2000 := by omega
            clear hput hleaf hrp hpart h3 h10 hloI hhiI hekI hhiE hloE hstep hpl hlen
            clear h1 h2 hx0
            go_wp2_with fail
            refine wp_region_need (fun w' => w'.cell? ⟨p, 0, none⟩ = some (.slice (some ⟨g, 0, none⟩) N cap) ∧ w'.cell? ⟨p, 1, none⟩ = some (.int .u64 (T.toNat : Int))) (fun _ => true) (by kernel_rfl) ⟨c0, c1⟩ (fun hHeld => ?_)
            refine wpAnyN_take (i := 0) (v := ?_) rfl (by kernel_rfl) (by kernel_rfl) (by kernel_rfl) (by kernel_rfl) (fun _ _ _ h => h) (Or.inl ⟨by rfl, ?_⟩) (by assumption) ?_
            rotate_left
            · intro w hSw; ((try dsimp only at hSw); go_simp; (try with_reducible rfl))
            simp only [Act.put, List.setIfInBounds_toArray, List.set_cons_zero, List.set_cons_succ]
            refine wpAnyN_take (i := 1) (v := ?_) rfl (by kernel_rfl) (by kernel_rfl) (by kernel_rfl) (by kernel_rfl) (fun _ _ _ h => h) (Or.inl ⟨by rfl, ?_⟩) (by assumption) ?_
            rotate_left
            · intro w hSw; ((try dsimp only at hSw); go_simp; (try with_reducible rfl))
            simp only [Act.put, List.setIfInBounds_toArray, List.set_cons_zero, List.set_cons_succ]
            refine wpAnyN_take (i := 2) (v := ?_) rfl (by kernel_rfl) (by kernel_rfl) (by kernel_rfl) (by kernel_rfl) (fun _ _ _ h => h) (Or.inl ⟨by rfl, ?_⟩) (by assumption) ?_
            rotate_left
            · intro w hSw; ((try dsimp only at hSw); go_simp; (try with_reducible rfl))
            simp only [Act.put, List.setIfInBounds_toArray, List.set_cons_zero, List.set_cons_succ]
            refine wpAnyN_take (i := 3) (v := ?_) rfl (by kernel_rfl) (by kernel_rfl) (by kernel_rfl) (by kernel_rfl) (fun _ _ _ h => h) (Or.inl ⟨by rfl, ?_⟩) (by assumption) ?_
            rotate_left
            · intro w hSw; ((try dsimp only at hSw); go_simp; (try with_reducible rfl))
            simp only [Act.put, List.setIfInBounds_toArray, List.set_cons_zero, List.set_cons_succ]
            refine wpAnyN_take (i := 4) (v := ?_) rfl (by kernel_rfl) (by kernel_rfl) (by kernel_rfl) (by kernel_rfl) (fun _ _ _ h => h) (Or.inl ⟨by rfl, ?_⟩) (by assumption) ?_
            rotate_left
            · intro w hSw; ((try dsimp only at hSw); go_simp; (try with_reducible rfl))
            simp only [Act.put, List.setIfInBounds_toArray, List.set_cons_zero, List.set_cons_succ]
            refine wpAnyN_take (i := 5) (v := ?_) rfl (by kernel_rfl) (by kernel_rfl) (by kernel_rfl) (by kernel_rfl) (fun _ _ _ h => h) (Or.inl ⟨by rfl, ?_⟩) (by assumption) ?_
            rotate_left
            · intro w hSw; ((try dsimp only at hSw); go_simp; (try with_reducible rfl))
            simp only [Act.put, List.setIfInBounds_toArray, List.set_cons_zero, List.set_cons_succ]
            refine wpAnyN_take (i := 6) (v := .int .i64 (ek : Int)) rfl (by kernel_rfl) (by kernel_rfl) (by kernel_rfl) (by kernel_rfl) (fun _ _ _ h => h) (Or.inl ⟨by rfl, fun w hSw => by (try dsimp only at hSw); have hq := hI.out.2.2; go_simp; exact wrapI (by omega)⟩) (by assumption) ?_
            simp only [Act.put, List.setIfInBounds_toArray, List.set_cons_zero, List.set_cons_succ]
            refine wpAnyN_take (i := 7) (v := ?_) rfl (by kernel_rfl) (by kernel_rfl) (by kernel_rfl) (by kernel_rfl) (fun _ _ _ h => h) (Or.inl ⟨by rfl, ?_⟩) (by assumption) ?_
            rotate_left
            · intro w hSw; ((try dsimp only at hSw); go_simp; (try with_reducible rfl))
            simp only [Act.put, List.setIfInBounds_toArray, List.set_cons_zero, List.set_cons_succ]
            refine wpAnyN_take (i := 8) (v := ?_) rfl (by kernel_rfl) (by kernel_rfl) (by kernel_rfl) (by kernel_rfl) (fun _ _ _ h => h) (Or.inl ⟨by rfl, ?_⟩) (by assumption) ?_
            rotate_left
            · intro w hSw; ((try dsimp only at hSw); go_simp; (try with_reducible rfl))
            simp only [Act.put, List.setIfInBounds_toArray, List.set_cons_zero, List.set_cons_succ]
            refine wpAnyN_take (i := 9) (v := ?_) rfl (by kernel_rfl) (by kernel_rfl) (by kernel_rfl) (by kernel_rfl) (fun _ _ _ h => h) (Or.inl ⟨by rfl, ?_⟩) (by assumption) ?_
            rotate_left
            · intro w hSw; ((try dsimp only at hSw); go_simp; (try with_reducible rfl))
            simp only [Act.put, List.setIfInBounds_toArray, List.set_cons_zero, List.set_cons_succ]
            refine wpAnyN_take (i := 10) (v := ?_) rfl (by kernel_rfl) (by kernel_rfl) (by kernel_rfl) (by kernel_rfl) (fun _ _ _ h => h) (Or.inl ⟨by rfl, ?_⟩) (by assumption) ?_
            rotate_left
            · intro w hSw; ((try dsimp only at hSw); go_simp; (try with_reducible rfl))
            simp only [Act.put, List.setIfInBounds_toArray, List.set_cons_zero, List.set_cons_succ]
            refine wpAnyN_take (i := 11) (v := ?_) rfl (by kernel_rfl) (by kernel_rfl) (by kernel_rfl) (by kernel_rfl) (fun _ _ _ h => h) (Or.inl ⟨by rfl, ?_⟩) (by assumption) ?_
            rotate_left
            · intro w hSw; ((try dsimp only at hSw); go_simp; (try with_reducible rfl))
            simp only [Act.put, List.setIfInBounds_toArray, List.set_cons_zero, List.set_cons_succ]
            refine wpAnyN_take (i := 12) (v := ?_) rfl (by kernel_rfl) (by kernel_rfl) (by kernel_rfl) (by kernel_rfl) (fun _ _ _ h => h) (Or.inl ⟨by rfl, ?_⟩) (by assumption) ?_
            rotate_left
            · intro w hSw; ((try dsimp only at hSw); go_simp; (try with_reducible rfl))
            simp only [Act.put, List.setIfInBounds_toArray, List.set_cons_zero, List.set_cons_succ]
            refine wpAnyN_take (i := 13) (v := ?_) rfl (by kernel_rfl) (by kernel_rfl) (by kernel_rfl) (by kernel_rfl) (fun _ _ _ h => h) (Or.inl ⟨by rfl, ?_⟩) (by assumption) ?_
            rotate_left
            · intro w hSw; ((try dsimp only at hSw); go_simp; (try with_reducible rfl))
            simp only [Act.put, List.setIfInBounds_toArray, List.set_cons_zero, List.set_cons_succ]
            refine wpAnyN_take (i := 14) (v := ?_) rfl (by kernel_rfl) (by kernel_rfl) (by kernel_rfl) (by kernel_rfl) (fun _ _ _ h => h) (Or.inl ⟨by rfl, ?_⟩) (by assumption) ?_
            rotate_left
            · intro w hSw; ((try dsimp only at hSw); go_simp; (try with_reducible rfl))
            simp only [Act.put, List.setIfInBounds_toArray, List.set_cons_zero, List.set_cons_succ]
            refine wpAnyN_take (i := 15) (v := .int .i64 (lo : Int)) rfl (by kernel_rfl) (by kernel_rfl) (by kernel_rfl) (by kernel_rfl) (fun _ _ _ h => h) (Or.inl ⟨by rfl, fun w hSw => by (try dsimp only at hSw); have hq := hI.out.1; go_simp; exact wrapI (by omega)⟩) (by assumption) ?_
            simp only [Act.put, List.setIfInBounds_toArray, List.set_cons_zero, List.set_cons_succ]
            refine wpAnyN_take (i := 16) (v := ?_) rfl (by kernel_rfl) (by kernel_rfl) (by kernel_rfl) (by kernel_rfl) (fun _ _ _ h => h) (Or.inl ⟨by rfl, ?_⟩) (by assumption) ?_
            rotate_left
            · intro w hSw; ((try dsimp only at hSw); go_simp; (try with_reducible rfl))
            simp only [Act.put, List.setIfInBounds_toArray, List.set_cons_zero, List.set_cons_succ]
            refine wpAnyN_take (i := 17) (v := .int .i64 (B : Int)) rfl (by kernel_rfl) (by kernel_rfl) (by kernel_rfl) (by kernel_rfl) (fun _ _ _ h => h) (Or.inl ⟨by rfl, fun w hSw => by (try dsimp only at hSw); have hln := hlenH.out w; go_simp⟩) (by assumption) ?_
            simp only [Act.put, List.setIfInBounds_toArray, List.set_cons_zero, List.set_cons_succ]
            refine wpAnyN_take (i := 18) (v := ?_) rfl (by kernel_rfl) (by kernel_rfl) (by kernel_rfl) (by kernel_rfl) (fun _ _ _ h => h) (Or.inl ⟨by rfl, ?_⟩) (by assumption) ?_
            rotate_left
            · intro w hSw; ((try dsimp only at hSw); go_simp; (try with_reducible rfl))
            simp only [Act.put, List.setIfInBounds_toArray, List.set_cons_zero, List.set_cons_succ]
            refine wpAnyN_take (i := 19) (v := .int .i64 (lo : Int)) rfl (by kernel_rfl) (by kernel_rfl) (by kernel_rfl) (by kernel_rfl) (fun _ _ _ h => h) (Or.inl ⟨by rfl, fun w hSw => by (try dsimp only at hSw); have hq := hI.out.1; go_simp; exact wrapI (by omega)⟩) (by assumption) ?_
            simp only [Act.put, List.setIfInBounds_toArray, List.set_cons_zero, List.set_cons_succ]
            refine wpAnyN_take (i := 20) (v := .int .i64 ((lo : Int) + 480)) rfl (by kernel_rfl) (by kernel_rfl) (by kernel_rfl) (by kernel_rfl) (fun _ _ _ h => h) (Or.inl ⟨by rfl, fun w hSw => by (try dsimp only at hSw); go_simp; exact wrapI (by omega)⟩) (by assumption) ?_
            simp only [Act.put, List.setIfInBounds_toArray, List.set_cons_zero, List.set_cons_succ]
            refine wpAnyN_take (i := 21) (v := .int .i64 (hi : Int)) rfl (by kernel_rfl) (by kernel_rfl) (by kernel_rfl) (by kernel_rfl) (fun _ _ _ h => h) (Or.inl ⟨by rfl, fun w hSw => by (try dsimp only at hSw); go_simp; have hq := hI.out.2.1; split <;> omega⟩) (by assumption) ?_
            simp only [Act.put, List.setIfInBounds_toArray, List.set_cons_zero, List.set_cons_succ]
            refine wpAnyN_take (i := 22) (v := str (LogM.part b k)) rfl (by kernel_rfl) (by kernel_rfl) (by kernel_rfl) (by kernel_rfl) (fun _ _ _ h => h) (yields_run rfl (fun w hSw => ?_)) (by assumption) ?_
            · refine exec_slice 9 (.tmp 63) (some (.tmp 65)) (some (.tmp 71)) none rfl ?_
              rw [hpartH.out]
              exact hrpH.out w
            simp only [Act.put, List.setIfInBounds_toArray, List.set_cons_zero, List.set_cons_succ]
            refine wpAnyN_one (i := 23) rfl (by kernel_rfl) ?_
            go_wp2_with fail
            refine (hleafH.out wr.drew o').mono ?_; rintro e2 W2 ⟨v2, o2', rfl, hs, rfl⟩
            have hs2 : Step Nobody wr o' W2 o2' := (Step.refl Nobody wr o').drew.trans hs
            have m1 := (hs2.block p (lt_of_block h1H.out) (fun h => h)).trans h1H.out
            have m2 := (hs2.block g (lt_of_block h2H.out) (fun h => h)).trans h2H.out
            have m7 := (hs2.own g (lt_of_block h2H.out)).trans h7H.out
            have hput := hputH.out W2 o2' hs2
            have hst2 := hst.trans (hs2.only E)
            have e0 : W2.cell? ⟨p, 0, none⟩ = some (.slice (some ⟨g, 0, none⟩) N cap) := by rw [cell_of_block (cs := [_, _]) m1 0, ← hNk]; rfl
            have e1 : W2.cell? ⟨p, 1, none⟩ = some (.int .u64 (T.toNat : Int)) := cell_of_block (cs := [_, _]) m1 1
            have eg : W2.cell? ⟨g, ek, none⟩ = some x0 := by rw [cell_of_block m2 ek]; exact hx0H.out
            have fg := free_of_block m2 ek
            obtain ⟨pg, hpgE⟩ : ∃ pg, LeafM.page ⟨T, k, 1, LogM.part b k⟩ = pg := ⟨_, rfl⟩
            rw [hpgE] at hput ⊢
            have hss := hst2.setCell (a := ⟨g, ek, none⟩) (str pg) (.inl (by show (o2' g).1 = E; rw [m7]))
            have q0 : (W2.setCell ⟨g, ek, none⟩ (str pg)).cell? ⟨p, 0, none⟩ = some (.slice (some ⟨g, 0, none⟩) N cap) := by rw [World.cell?_setCell_other _ _ _ _ (by intro h; exact hpg (congrArg Addr.block h).symm)]; exact e0
            have q1 : (W2.setCell ⟨g, ek, none⟩ (str pg)).cell? ⟨p, 1, none⟩ = some (.int .u64 (T.toNat : Int)) := by rw [World.cell?_setCell_other _ _ _ _ (by intro h; exact hpg (congrArg Addr.block h).symm)]; exact e1
            have hF := hidden (And.intro hput hss)
            have hQ := hidden (And.intro q0 q1)
            have hsp : str pg = .string ⟨pg.toArray⟩ := rfl
            rw [hsp] at hF hQ ⊢
            clear hsp
            clear hput hss q0 q1 hs hs2 m1 m2 m7 hst2 hst c0 c1 hHeld hpgE
            clear hleafH hputH hrpH h1H h2H h7H hx0H hpartH
            go_wp2_with fail
            refine ⟨fun _ => ⟨e0, e1⟩, ?_⟩
            refine wpAnyN_one (i := 24) rfl (by kernel_rfl) ?_
            go_wp2_with fail
            refine ⟨fun _ => ⟨e0, e1⟩, ?_⟩
            refine wpAnyN_one (i := 25) rfl (by kernel_rfl) ?_
            go_wp2_with fail
            refine ⟨fun _ => hQ.out, ?_⟩
            refine wpAnyN_done (by kernel_rfl) ?_ _
            clear e0 e1 eg fg
            go_wp2_with fail
            go_roundw
            case rel => exact ⟨k + 1, by omega, by go_num, o2', hF.out.1, hF.out.2⟩
            case measure => simp [intOf]; omega
          · have hkM : k = 1 := by omega
            have hge : 1 ≤ (k : Int) := by omega
            go_wp2_with fail
            go_ret
            refine ⟨_, o', rfl, hst, ?_, ?_⟩
            · rw [hrcH.out]; rfl
            · rw [hrcH.out, ← hputs.out, hMH.out, ← hkM]; exact hr
      | false =>
        have hh := rhead_any hr2H.out hE
        obtain ⟨S1, hS1⟩ : ∃ S1, S + 1#64 = S1 := ⟨_, rfl⟩
        rw [hS1] at hh
        have hS1H := hidden hS1
        clear hS1
        have hhH := hidden hh
        clear hh
        go_wp2_with fail
        refine hhH.out.mono ?_
        rintro e3 w3 ⟨v3, o3, rfl, hs3, rfl, hr3⟩
        have hst3H := hidden ((hs2H.out.only E).trans hs3)
        have hr3H := hidden hr3
        clear hr3 hs3 hhH
        obtain ⟨T, hT⟩ : ∃ T, S1 + 1#64 = T := ⟨_, rfl⟩
        have hinc := wrap_inc S1
        rw [hT] at hinc
        have hincH := hidden hinc
        obtain ⟨hc1, hf1⟩ := hr3H.out.cells
        have hrs := hr3H.out.restamp T
        have hst1 := (hst3H.out).trans hrs.2
        have hstart := hidden (And.intro hrs.1 hst1)
        have hrc : rcommit b R S = ((putPages (headPages R S1) e T b, T), 0) := by unfold rcommit; rw [heH.out, hMH.out, hNH.out, hhdH.out, if_neg (by omega), if_neg (by simp)]; rw [← hT, hS1H.out]
        have hR1 : Hid (((headPages R S1)).length = N ∧ e + 1 ≤ N) := hidden ⟨(LogM.length_headPages _ _).trans hNH.out, hfull⟩
        have hrcH := hidden hrc
        have hputs := hidden (rput_all ((headPages R S1)) e T b (by rw [hR1.out.1, hMH.out]; exact hfull))
        generalize (headPages R S1) = R1 at *
        clear hinc hrs hst1 hrc hT
        go_wp2_with fail
        rw [hincH.out]
        generalize w3.setCell ⟨p, 1, none⟩ (.int .u64 (T.toNat : Int)) = W1 at *
        clear hc1 hf1
        go_wp2_with fail
        (try rw [hMe])
        go_loopw [9] (fun i wr => ∃ k : Nat, k ≤ 1 ∧ i = .int .i64 k ∧ ∃ o', RefL wr o' E p (rput R1 e T b k) T ∧ Step (Only E) w o wr o')
          (fun i _ => 1 - (intOf i).toNat)
        case atStart => exact ⟨0, Nat.zero_le _, rfl, o3, hstart.out.1, hstart.out.2⟩
        case round =>
          clear hstart
          obtain ⟨k, hk, rfl, o', hr, hst⟩ := hrel
          by_cases hlt : k < 1
          · have hstep := rput_step R1 e T b 1 k hlt hMH.out
            have hlen := length_rput R1 e T b k
            obtain ⟨g, cap, cur, h1, h2, h3, h4, h5, h6, h7, h8, h9, h10⟩ := hr
            have hpg : p ≠ g := by rintro rfl; rw [h6] at h7; simp at h7
            have hNk : (rput R1 e T b k).length = N := hlen.trans hR1.out.1
            have heN := hR1.out.2
            generalize rput R1 e T b k = Rk at *
            have c0 : wr.cell? ⟨p, 0, none⟩ = some (.slice (some ⟨g, 0, none⟩) N cap) := by rw [cell_of_block (cs := [_, _]) h1 0, ← hNk]; rfl
            have c1 : wr.cell? ⟨p, 1, none⟩ = some (.int .u64 (T.toNat : Int)) := cell_of_block (cs := [_, _]) h1 1
            obtain ⟨x0, hx0⟩ : ∃ x0, cur[e + k]? = some x0 := by
              have : (cur.take Rk.length)[e + k]? = (tvs Rk)[e + k]? := by rw [h3]
              rw [List.getElem?_take, if_pos (by omega)] at this
              exact ⟨_, this.trans (List.getElem?_eq_getElem (by rw [length_tvs]; omega))⟩
            have hpl : (LogM.part b k).length ≤ 480 := by simp only [LogM.part, List.length_take]; omega
            have hleaf := fun W O => rleaf_any ⟨T, k, 1, LogM.part b k⟩ hpl (by show k ≤ 65535; omega) (by show 1 ≤ 65535; omega) W O
            obtain ⟨ek, hek⟩ : ∃ ek, e + k = ek := ⟨_, rfl⟩
            have hekI : (e : Int) + (k : Int) = (ek : Int) := by omega
            obtain ⟨lo, hloE⟩ : ∃ lo, 480 * k = lo := ⟨_, rfl⟩
            obtain ⟨hi, hhiE⟩ : ∃ hi, min b.length (480 * k + 480) = hi := ⟨_, rfl⟩
            have hloI : (480 : Int) * (k : Int) = (lo : Int) := by omega
            have hhiI : (hi = lo + 480 ∧ lo + 480 ≤ B) ∨ (hi = B ∧ B ≤ lo + 480) := by rw [← hhiE, hBH.out, hloE]; omega
            have hpart : LogM.part b k = (b.drop lo).take (hi - lo) := by
              unfold LogM.part
              rw [hloE, ← hhiE, hBH.out, hloE]
              by_cases hc : lo + 480 ≤ B
              · rw [Nat.min_eq_right hc]; congr 1; omega
              · rw [Nat.min_eq_left (by omega), List.take_of_length_le (by rw [List.length_drop, hBH.out]; omega), List.take_of_length_le (by rw [List.length_drop, hBH.out]; omega)]
            have hrp := fun W => run_str_part W b lo hi (by rw [← hhiE, hBH.out, hloE]; omega) (by rw [← hhiE]; omega)
            have hput := fun (w2 : World) (o2 : Own) (hs2 : Step Nobody wr o' w2 o2) => (RefL.put ((hs2.block p (lt_of_block h1) (fun h => h)).trans h1) ((hs2.block g (lt_of_block h2) (fun h => h)).trans h2) h3 h4 h5 ((hs2.own p (lt_of_block h1)).trans h6) ((hs2.own g (lt_of_block h2)).trans h7) h8 h9 h10 (e + k) (LeafM.page ⟨T, k, 1, LogM.part b k⟩) (LeafM.length_page hpl))
            rw [hek] at hstep; simp only [hek, hstep] at hput
            have hI := hidden (And.intro hloI (And.intro hhiI hekI))
            have hputH := hidden hput
            (try simp only [Nat.cast_one] at hleaf)
            have hleafH := hidden hleaf
            have hrpH := hidden hrp
            have hpartH := hidden hpart
            have h1H := hidden h1
            have h2H := hidden h2
            have h7H := hidden h7
            rw [hek] at hx0
            have hx0H := hidden hx0
            have hlo1 : lo ≤ 1000000 := by omega
            have hek1 : ek ≤ 2000 := by omega
            clear hput hleaf hrp hpart h3 h10 hloI hhiI hekI hhiE hloE hstep hpl hlen
            clear h1 h2 hx0
            go_wp2_with fail
            refine wp_region_need (fun w' => w'.cell? ⟨p, 0, none⟩ = some (.slice (some ⟨g, 0, none⟩) N cap) ∧ w'.cell? ⟨p, 1, none⟩ = some (.int .u64 (T.toNat : Int))) (fun _ => true) (by kernel_rfl) ⟨c0, c1⟩ (fun hHeld => ?_)
            refine wpAnyN_take (i := 0) (v := ?_) rfl (by kernel_rfl) (by kernel_rfl) (by kernel_rfl) (by kernel_rfl) (fun _ _ _ h => h) (Or.inl ⟨by rfl, ?_⟩) (by assumption) ?_
            rotate_left
            · intro w hSw; ((try dsimp only at hSw); go_simp; (try with_reducible rfl))
            simp only [Act.put, List.setIfInBounds_toArray, List.set_cons_zero, List.set_cons_succ]
            refine wpAnyN_take (i := 1) (v := ?_) rfl (by kernel_rfl) (by kernel_rfl) (by kernel_rfl) (by kernel_rfl) (fun _ _ _ h => h) (Or.inl ⟨by rfl, ?_⟩) (by assumption) ?_
            rotate_left
            · intro w hSw; ((try dsimp only at hSw); go_simp; (try with_reducible rfl))
            simp only [Act.put, List.setIfInBounds_toArray, List.set_cons_zero, List.set_cons_succ]
            refine wpAnyN_take (i := 2) (v := ?_) rfl (by kernel_rfl) (by kernel_rfl) (by kernel_rfl) (by kernel_rfl) (fun _ _ _ h => h) (Or.inl ⟨by rfl, ?_⟩) (by assumption) ?_
            rotate_left
            · intro w hSw; ((try dsimp only at hSw); go_simp; (try with_reducible rfl))
            simp only [Act.put, List.setIfInBounds_toArray, List.set_cons_zero, List.set_cons_succ]
            refine wpAnyN_take (i := 3) (v := ?_) rfl (by kernel_rfl) (by kernel_rfl) (by kernel_rfl) (by kernel_rfl) (fun _ _ _ h => h) (Or.inl ⟨by rfl, ?_⟩) (by assumption) ?_
            rotate_left
            · intro w hSw; ((try dsimp only at hSw); go_simp; (try with_reducible rfl))
            simp only [Act.put, List.setIfInBounds_toArray, List.set_cons_zero, List.set_cons_succ]
            refine wpAnyN_take (i := 4) (v := ?_) rfl (by kernel_rfl) (by kernel_rfl) (by kernel_rfl) (by kernel_rfl) (fun _ _ _ h => h) (Or.inl ⟨by rfl, ?_⟩) (by assumption) ?_
            rotate_left
            · intro w hSw; ((try dsimp only at hSw); go_simp; (try with_reducible rfl))
            simp only [Act.put, List.setIfInBounds_toArray, List.set_cons_zero, List.set_cons_succ]
            refine wpAnyN_take (i := 5) (v := ?_) rfl (by kernel_rfl) (by kernel_rfl) (by kernel_rfl) (by kernel_rfl) (fun _ _ _ h => h) (Or.inl ⟨by rfl, ?_⟩) (by assumption) ?_
            rotate_left
            · intro w hSw; ((try dsimp only at hSw); go_simp; (try with_reducible rfl))
            simp only [Act.put, List.setIfInBounds_toArray, List.set_cons_zero, List.set_cons_succ]
            refine wpAnyN_take (i := 6) (v := .int .i64 (ek : Int)) rfl (by kernel_rfl) (by kernel_rfl) (by kernel_rfl) (by kernel_rfl) (fun _ _ _ h => h) (Or.inl ⟨by rfl, fun w hSw => by (try dsimp only at hSw); have hq := hI.out.2.2; go_simp; exact wrapI (by omega)⟩) (by assumption) ?_
            simp only [Act.put, List.setIfInBounds_toArray, List.set_cons_zero, List.set_cons_succ]
            refine wpAnyN_take (i := 7) (v := ?_) rfl (by kernel_rfl) (by kernel_rfl) (by kernel_rfl) (by kernel_rfl) (fun _ _ _ h => h) (Or.inl ⟨by rfl, ?_⟩) (by assumption) ?_
            rotate_left
            · intro w hSw; ((try dsimp only at hSw); go_simp; (try with_reducible rfl))
            simp only [Act.put, List.setIfInBounds_toArray, List.set_cons_zero, List.set_cons_succ]
            refine wpAnyN_take (i := 8) (v := ?_) rfl (by kernel_rfl) (by kernel_rfl) (by kernel_rfl) (by kernel_rfl) (fun _ _ _ h => h) (Or.inl ⟨by rfl, ?_⟩) (by assumption) ?_
            rotate_left
            · intro w hSw; ((try dsimp only at hSw); go_simp; (try with_reducible rfl))
            simp only [Act.put, List.setIfInBounds_toArray, List.set_cons_zero, List.set_cons_succ]
            refine wpAnyN_take (i := 9) (v := ?_) rfl (by kernel_rfl) (by kernel_rfl) (by kernel_rfl) (by kernel_rfl) (fun _ _ _ h => h) (Or.inl ⟨by rfl, ?_⟩) (by assumption) ?_
            rotate_left
            · intro w hSw; ((try dsimp only at hSw); go_simp; (try with_reducible rfl))
            simp only [Act.put, List.setIfInBounds_toArray, List.set_cons_zero, List.set_cons_succ]
            refine wpAnyN_take (i := 10) (v := ?_) rfl (by kernel_rfl) (by kernel_rfl) (by kernel_rfl) (by kernel_rfl) (fun _ _ _ h => h) (Or.inl ⟨by rfl, ?_⟩) (by assumption) ?_
            rotate_left
            · intro w hSw; ((try dsimp only at hSw); go_simp; (try with_reducible rfl))
            simp only [Act.put, List.setIfInBounds_toArray, List.set_cons_zero, List.set_cons_succ]
            refine wpAnyN_take (i := 11) (v := ?_) rfl (by kernel_rfl) (by kernel_rfl) (by kernel_rfl) (by kernel_rfl) (fun _ _ _ h => h) (Or.inl ⟨by rfl, ?_⟩) (by assumption) ?_
            rotate_left
            · intro w hSw; ((try dsimp only at hSw); go_simp; (try with_reducible rfl))
            simp only [Act.put, List.setIfInBounds_toArray, List.set_cons_zero, List.set_cons_succ]
            refine wpAnyN_take (i := 12) (v := ?_) rfl (by kernel_rfl) (by kernel_rfl) (by kernel_rfl) (by kernel_rfl) (fun _ _ _ h => h) (Or.inl ⟨by rfl, ?_⟩) (by assumption) ?_
            rotate_left
            · intro w hSw; ((try dsimp only at hSw); go_simp; (try with_reducible rfl))
            simp only [Act.put, List.setIfInBounds_toArray, List.set_cons_zero, List.set_cons_succ]
            refine wpAnyN_take (i := 13) (v := ?_) rfl (by kernel_rfl) (by kernel_rfl) (by kernel_rfl) (by kernel_rfl) (fun _ _ _ h => h) (Or.inl ⟨by rfl, ?_⟩) (by assumption) ?_
            rotate_left
            · intro w hSw; ((try dsimp only at hSw); go_simp; (try with_reducible rfl))
            simp only [Act.put, List.setIfInBounds_toArray, List.set_cons_zero, List.set_cons_succ]
            refine wpAnyN_take (i := 14) (v := ?_) rfl (by kernel_rfl) (by kernel_rfl) (by kernel_rfl) (by kernel_rfl) (fun _ _ _ h => h) (Or.inl ⟨by rfl, ?_⟩) (by assumption) ?_
            rotate_left
            · intro w hSw; ((try dsimp only at hSw); go_simp; (try with_reducible rfl))
            simp only [Act.put, List.setIfInBounds_toArray, List.set_cons_zero, List.set_cons_succ]
            refine wpAnyN_take (i := 15) (v := .int .i64 (lo : Int)) rfl (by kernel_rfl) (by kernel_rfl) (by kernel_rfl) (by kernel_rfl) (fun _ _ _ h => h) (Or.inl ⟨by rfl, fun w hSw => by (try dsimp only at hSw); have hq := hI.out.1; go_simp; exact wrapI (by omega)⟩) (by assumption) ?_
            simp only [Act.put, List.setIfInBounds_toArray, List.set_cons_zero, List.set_cons_succ]
            refine wpAnyN_take (i := 16) (v := ?_) rfl (by kernel_rfl) (by kernel_rfl) (by kernel_rfl) (by kernel_rfl) (fun _ _ _ h => h) (Or.inl ⟨by rfl, ?_⟩) (by assumption) ?_
            rotate_left
            · intro w hSw; ((try dsimp only at hSw); go_simp; (try with_reducible rfl))
            simp only [Act.put, List.setIfInBounds_toArray, List.set_cons_zero, List.set_cons_succ]
            refine wpAnyN_take (i := 17) (v := .int .i64 (B : Int)) rfl (by kernel_rfl) (by kernel_rfl) (by kernel_rfl) (by kernel_rfl) (fun _ _ _ h => h) (Or.inl ⟨by rfl, fun w hSw => by (try dsimp only at hSw); have hln := hlenH.out w; go_simp⟩) (by assumption) ?_
            simp only [Act.put, List.setIfInBounds_toArray, List.set_cons_zero, List.set_cons_succ]
            refine wpAnyN_take (i := 18) (v := ?_) rfl (by kernel_rfl) (by kernel_rfl) (by kernel_rfl) (by kernel_rfl) (fun _ _ _ h => h) (Or.inl ⟨by rfl, ?_⟩) (by assumption) ?_
            rotate_left
            · intro w hSw; ((try dsimp only at hSw); go_simp; (try with_reducible rfl))
            simp only [Act.put, List.setIfInBounds_toArray, List.set_cons_zero, List.set_cons_succ]
            refine wpAnyN_take (i := 19) (v := .int .i64 (lo : Int)) rfl (by kernel_rfl) (by kernel_rfl) (by kernel_rfl) (by kernel_rfl) (fun _ _ _ h => h) (Or.inl ⟨by rfl, fun w hSw => by (try dsimp only at hSw); have hq := hI.out.1; go_simp; exact wrapI (by omega)⟩) (by assumption) ?_
            simp only [Act.put, List.setIfInBounds_toArray, List.set_cons_zero, List.set_cons_succ]
            refine wpAnyN_take (i := 20) (v := .int .i64 ((lo : Int) + 480)) rfl (by kernel_rfl) (by kernel_rfl) (by kernel_rfl) (by kernel_rfl) (fun _ _ _ h => h) (Or.inl ⟨by rfl, fun w hSw => by (try dsimp only at hSw); go_simp; exact wrapI (by omega)⟩) (by assumption) ?_
            simp only [Act.put, List.setIfInBounds_toArray, List.set_cons_zero, List.set_cons_succ]
            refine wpAnyN_take (i := 21) (v := .int .i64 (hi : Int)) rfl (by kernel_rfl) (by kernel_rfl) (by kernel_rfl) (by kernel_rfl) (fun _ _ _ h => h) (Or.inl ⟨by rfl, fun w hSw => by (try dsimp only at hSw); go_simp; have hq := hI.out.2.1; split <;> omega⟩) (by assumption) ?_
            simp only [Act.put, List.setIfInBounds_toArray, List.set_cons_zero, List.set_cons_succ]
            refine wpAnyN_take (i := 22) (v := str (LogM.part b k)) rfl (by kernel_rfl) (by kernel_rfl) (by kernel_rfl) (by kernel_rfl) (fun _ _ _ h => h) (yields_run rfl (fun w hSw => ?_)) (by assumption) ?_
            · refine exec_slice 9 (.tmp 63) (some (.tmp 65)) (some (.tmp 71)) none rfl ?_
              rw [hpartH.out]
              exact hrpH.out w
            simp only [Act.put, List.setIfInBounds_toArray, List.set_cons_zero, List.set_cons_succ]
            refine wpAnyN_one (i := 23) rfl (by kernel_rfl) ?_
            go_wp2_with fail
            refine (hleafH.out wr.drew o').mono ?_; rintro e2 W2 ⟨v2, o2', rfl, hs, rfl⟩
            have hs2 : Step Nobody wr o' W2 o2' := (Step.refl Nobody wr o').drew.trans hs
            have m1 := (hs2.block p (lt_of_block h1H.out) (fun h => h)).trans h1H.out
            have m2 := (hs2.block g (lt_of_block h2H.out) (fun h => h)).trans h2H.out
            have m7 := (hs2.own g (lt_of_block h2H.out)).trans h7H.out
            have hput := hputH.out W2 o2' hs2
            have hst2 := hst.trans (hs2.only E)
            have e0 : W2.cell? ⟨p, 0, none⟩ = some (.slice (some ⟨g, 0, none⟩) N cap) := by rw [cell_of_block (cs := [_, _]) m1 0, ← hNk]; rfl
            have e1 : W2.cell? ⟨p, 1, none⟩ = some (.int .u64 (T.toNat : Int)) := cell_of_block (cs := [_, _]) m1 1
            have eg : W2.cell? ⟨g, ek, none⟩ = some x0 := by rw [cell_of_block m2 ek]; exact hx0H.out
            have fg := free_of_block m2 ek
            obtain ⟨pg, hpgE⟩ : ∃ pg, LeafM.page ⟨T, k, 1, LogM.part b k⟩ = pg := ⟨_, rfl⟩
            rw [hpgE] at hput ⊢
            have hss := hst2.setCell (a := ⟨g, ek, none⟩) (str pg) (.inl (by show (o2' g).1 = E; rw [m7]))
            have q0 : (W2.setCell ⟨g, ek, none⟩ (str pg)).cell? ⟨p, 0, none⟩ = some (.slice (some ⟨g, 0, none⟩) N cap) := by rw [World.cell?_setCell_other _ _ _ _ (by intro h; exact hpg (congrArg Addr.block h).symm)]; exact e0
            have q1 : (W2.setCell ⟨g, ek, none⟩ (str pg)).cell? ⟨p, 1, none⟩ = some (.int .u64 (T.toNat : Int)) := by rw [World.cell?_setCell_other _ _ _ _ (by intro h; exact hpg (congrArg Addr.block h).symm)]; exact e1
            have hF := hidden (And.intro hput hss)
            have hQ := hidden (And.intro q0 q1)
            have hsp : str pg = .string ⟨pg.toArray⟩ := rfl
            rw [hsp] at hF hQ ⊢
            clear hsp
            clear hput hss q0 q1 hs hs2 m1 m2 m7 hst2 hst c0 c1 hHeld hpgE
            clear hleafH hputH hrpH h1H h2H h7H hx0H hpartH
            go_wp2_with fail
            refine ⟨fun _ => ⟨e0, e1⟩, ?_⟩
            refine wpAnyN_one (i := 24) rfl (by kernel_rfl) ?_
            go_wp2_with fail
            refine ⟨fun _ => ⟨e0, e1⟩, ?_⟩
            refine wpAnyN_one (i := 25) rfl (by kernel_rfl) ?_
            go_wp2_with fail
            refine ⟨fun _ => hQ.out, ?_⟩
            refine wpAnyN_done (by kernel_rfl) ?_ _
            clear e0 e1 eg fg
            go_wp2_with fail
            go_roundw
            case rel => exact ⟨k + 1, by omega, by go_num, o2', hF.out.1, hF.out.2⟩
            case measure => simp [intOf]; omega
          · have hkM : k = 1 := by omega
            have hge : 1 ≤ (k : Int) := by omega
            go_wp2_with fail
            go_ret
            refine ⟨_, o', rfl, hst, ?_, ?_⟩
            · rw [hrcH.out]; rfl
            · rw [hrcH.out, ← hputs.out, hMH.out, ← hkM]; exact hr
  · have hq : (((B : Int) + 479) / 480 == 0) = false := by rw [beq_eq_false_iff_ne]; omega
    have hMe : ((B : Int) + 479) / 480 = (M : Int) := by omega
    have hM0 : ((M : Int) == 0) = false := by rw [beq_eq_false_iff_ne]; omega
    clear hq
    have hroomN : N < e + M ∨ e + M ≤ N := by omega
    rcases hroomN with hfull | hfull
    · have hfI : (N : Int) < (e : Int) + (M : Int) := by omega
      go_wp2_with fail
      go_ret
      have hrc : rcommit b R S = ((R, S), 4) := by unfold rcommit; rw [heH.out, hMH.out, hNH.out, if_pos hfull]
      exact ⟨_, o2, rfl, hs2H.out.only E, by rw [hrc]; rfl, by rw [hrc]; exact hr2H.out⟩
    · have hfI : (e : Int) + (M : Int) ≤ (N : Int) := by omega
      cases hd with
      | true =>
        obtain ⟨T, hT⟩ : ∃ T, S + 1#64 = T := ⟨_, rfl⟩
        have hinc := wrap_inc S
        rw [hT] at hinc
        have hincH := hidden hinc
        obtain ⟨hc1, hf1⟩ := hr2H.out.cells
        have hrs := hr2H.out.restamp T
        have hst1 := (hs2H.out.only E).trans hrs.2
        have hstart := hidden (And.intro hrs.1 hst1)
        have hrc : rcommit b R S = ((putPages R e T b, T), 0) := by unfold rcommit; rw [heH.out, hMH.out, hNH.out, hhdH.out, if_neg (by omega), if_pos rfl]; rw [← hT]
        have hR1 : Hid ((R).length = N ∧ e + M ≤ N) := hidden ⟨hNH.out, hfull⟩
        have hrcH := hidden hrc
        have hputs := hidden (rput_all (R) e T b (by rw [hR1.out.1, hMH.out]; exact hfull))
        clear hinc hrs hst1 hrc hT
        go_wp2_with fail
        rw [hincH.out]
        generalize w2.setCell ⟨p, 1, none⟩ (.int .u64 (T.toNat : Int)) = W1 at *
        clear hc1 hf1
        go_wp2_with fail
        (try rw [hMe])
        go_loopw [9] (fun i wr => ∃ k : Nat, k ≤ M ∧ i = .int .i64 k ∧ ∃ o', RefL wr o' E p (rput R e T b k) T ∧ Step (Only E) w o wr o')
          (fun i _ => M - (intOf i).toNat)
        case atStart => exact ⟨0, Nat.zero_le _, rfl, o2, hstart.out.1, hstart.out.2⟩
        case round =>
          clear hstart
          obtain ⟨k, hk, rfl, o', hr, hst⟩ := hrel
          by_cases hlt : k < M
          · have hstep := rput_step R e T b M k hlt hMH.out
            have hlen := length_rput R e T b k
            obtain ⟨g, cap, cur, h1, h2, h3, h4, h5, h6, h7, h8, h9, h10⟩ := hr
            have hpg : p ≠ g := by rintro rfl; rw [h6] at h7; simp at h7
            have hNk : (rput R e T b k).length = N := hlen.trans hR1.out.1
            have heN := hR1.out.2
            generalize rput R e T b k = Rk at *
            have c0 : wr.cell? ⟨p, 0, none⟩ = some (.slice (some ⟨g, 0, none⟩) N cap) := by rw [cell_of_block (cs := [_, _]) h1 0, ← hNk]; rfl
            have c1 : wr.cell? ⟨p, 1, none⟩ = some (.int .u64 (T.toNat : Int)) := cell_of_block (cs := [_, _]) h1 1
            obtain ⟨x0, hx0⟩ : ∃ x0, cur[e + k]? = some x0 := by
              have : (cur.take Rk.length)[e + k]? = (tvs Rk)[e + k]? := by rw [h3]
              rw [List.getElem?_take, if_pos (by omega)] at this
              exact ⟨_, this.trans (List.getElem?_eq_getElem (by rw [length_tvs]; omega))⟩
            have hpl : (LogM.part b k).length ≤ 480 := by simp only [LogM.part, List.length_take]; omega
            have hleaf := fun W O => rleaf_any ⟨T, k, M, LogM.part b k⟩ hpl (by show k ≤ 65535; omega) (by show M ≤ 65535; omega) W O
            obtain ⟨ek, hek⟩ : ∃ ek, e + k = ek := ⟨_, rfl⟩
            have hekI : (e : Int) + (k : Int) = (ek : Int) := by omega
            obtain ⟨lo, hloE⟩ : ∃ lo, 480 * k = lo := ⟨_, rfl⟩
            obtain ⟨hi, hhiE⟩ : ∃ hi, min b.length (480 * k + 480) = hi := ⟨_, rfl⟩
            have hloI : (480 : Int) * (k : Int) = (lo : Int) := by omega
            have hhiI : (hi = lo + 480 ∧ lo + 480 ≤ B) ∨ (hi = B ∧ B ≤ lo + 480) := by rw [← hhiE, hBH.out, hloE]; omega
            have hpart : LogM.part b k = (b.drop lo).take (hi - lo) := by
              unfold LogM.part
              rw [hloE, ← hhiE, hBH.out, hloE]
              by_cases hc : lo + 480 ≤ B
              · rw [Nat.min_eq_right hc]; congr 1; omega
              · rw [Nat.min_eq_left (by omega), List.take_of_length_le (by rw [List.length_drop, hBH.out]; omega), List.take_of_length_le (by rw [List.length_drop, hBH.out]; omega)]
            have hrp := fun W => run_str_part W b lo hi (by rw [← hhiE, hBH.out, hloE]; omega) (by rw [← hhiE]; omega)
            have hput := fun (w2 : World) (o2 : Own) (hs2 : Step Nobody wr o' w2 o2) => (RefL.put ((hs2.block p (lt_of_block h1) (fun h => h)).trans h1) ((hs2.block g (lt_of_block h2) (fun h => h)).trans h2) h3 h4 h5 ((hs2.own p (lt_of_block h1)).trans h6) ((hs2.own g (lt_of_block h2)).trans h7) h8 h9 h10 (e + k) (LeafM.page ⟨T, k, M, LogM.part b k⟩) (LeafM.length_page hpl))
            rw [hek] at hstep; simp only [hek, hstep] at hput
            have hI := hidden (And.intro hloI (And.intro hhiI hekI))
            have hputH := hidden hput
            (try simp only [Nat.cast_one] at hleaf)
            have hleafH := hidden hleaf
            have hrpH := hidden hrp
            have hpartH := hidden hpart
            have h1H := hidden h1
            have h2H := hidden h2
            have h7H := hidden h7
            rw [hek] at hx0
            have hx0H := hidden hx0
            have hlo1 : lo ≤ 1000000 := by omega
            have hek1 : ek ≤ 2000 := by omega
            clear hput hleaf hrp hpart h3 h10 hloI hhiI hekI hhiE hloE hstep hpl hlen
            clear h1 h2 hx0
            go_wp2_with fail
            refine wp_region_need (fun w' => w'.cell? ⟨p, 0, none⟩ = some (.slice (some ⟨g, 0, none⟩) N cap) ∧ w'.cell? ⟨p, 1, none⟩ = some (.int .u64 (T.toNat : Int))) (fun _ => true) (by kernel_rfl) ⟨c0, c1⟩ (fun hHeld => ?_)
            refine wpAnyN_take (i := 0) (v := ?_) rfl (by kernel_rfl) (by kernel_rfl) (by kernel_rfl) (by kernel_rfl) (fun _ _ _ h => h) (Or.inl ⟨by rfl, ?_⟩) (by assumption) ?_
            rotate_left
            · intro w hSw; ((try dsimp only at hSw); go_simp; (try with_reducible rfl))
            simp only [Act.put, List.setIfInBounds_toArray, List.set_cons_zero, List.set_cons_succ]
            refine wpAnyN_take (i := 1) (v := ?_) rfl (by kernel_rfl) (by kernel_rfl) (by kernel_rfl) (by kernel_rfl) (fun _ _ _ h => h) (Or.inl ⟨by rfl, ?_⟩) (by assumption) ?_
            rotate_left
            · intro w hSw; ((try dsimp only at hSw); go_simp; (try with_reducible rfl))
            simp only [Act.put, List.setIfInBounds_toArray, List.set_cons_zero, List.set_cons_succ]
            refine wpAnyN_take (i := 2) (v := ?_) rfl (by kernel_rfl) (by kernel_rfl) (by kernel_rfl) (by kernel_rfl) (fun _ _ _ h => h) (Or.inl ⟨by rfl, ?_⟩) (by assumption) ?_
            rotate_left
            · intro w hSw; ((try dsimp only at hSw); go_simp; (try with_reducible rfl))
            simp only [Act.put, List.setIfInBounds_toArray, List.set_cons_zero, List.set_cons_succ]
            refine wpAnyN_take (i := 3) (v := ?_) rfl (by kernel_rfl) (by kernel_rfl) (by kernel_rfl) (by kernel_rfl) (fun _ _ _ h => h) (Or.inl ⟨by rfl, ?_⟩) (by assumption) ?_
            rotate_left
            · intro w hSw; ((try dsimp only at hSw); go_simp; (try with_reducible rfl))
            simp only [Act.put, List.setIfInBounds_toArray, List.set_cons_zero, List.set_cons_succ]
            refine wpAnyN_take (i := 4) (v := ?_) rfl (by kernel_rfl) (by kernel_rfl) (by kernel_rfl) (by kernel_rfl) (fun _ _ _ h => h) (Or.inl ⟨by rfl, ?_⟩) (by assumption) ?_
            rotate_left
            · intro w hSw; ((try dsimp only at hSw); go_simp; (try with_reducible rfl))
            simp only [Act.put, List.setIfInBounds_toArray, List.set_cons_zero, List.set_cons_succ]
            refine wpAnyN_take (i := 5) (v := ?_) rfl (by kernel_rfl) (by kernel_rfl) (by kernel_rfl) (by kernel_rfl) (fun _ _ _ h => h) (Or.inl ⟨by rfl, ?_⟩) (by assumption) ?_
            rotate_left
            · intro w hSw; ((try dsimp only at hSw); go_simp; (try with_reducible rfl))
            simp only [Act.put, List.setIfInBounds_toArray, List.set_cons_zero, List.set_cons_succ]
            refine wpAnyN_take (i := 6) (v := .int .i64 (ek : Int)) rfl (by kernel_rfl) (by kernel_rfl) (by kernel_rfl) (by kernel_rfl) (fun _ _ _ h => h) (Or.inl ⟨by rfl, fun w hSw => by (try dsimp only at hSw); have hq := hI.out.2.2; go_simp; exact wrapI (by omega)⟩) (by assumption) ?_
            simp only [Act.put, List.setIfInBounds_toArray, List.set_cons_zero, List.set_cons_succ]
            refine wpAnyN_take (i := 7) (v := ?_) rfl (by kernel_rfl) (by kernel_rfl) (by kernel_rfl) (by kernel_rfl) (fun _ _ _ h => h) (Or.inl ⟨by rfl, ?_⟩) (by assumption) ?_
            rotate_left
            · intro w hSw; ((try dsimp only at hSw); go_simp; (try with_reducible rfl))
            simp only [Act.put, List.setIfInBounds_toArray, List.set_cons_zero, List.set_cons_succ]
            refine wpAnyN_take (i := 8) (v := ?_) rfl (by kernel_rfl) (by kernel_rfl) (by kernel_rfl) (by kernel_rfl) (fun _ _ _ h => h) (Or.inl ⟨by rfl, ?_⟩) (by assumption) ?_
            rotate_left
            · intro w hSw; ((try dsimp only at hSw); go_simp; (try with_reducible rfl))
            simp only [Act.put, List.setIfInBounds_toArray, List.set_cons_zero, List.set_cons_succ]
            refine wpAnyN_take (i := 9) (v := ?_) rfl (by kernel_rfl) (by kernel_rfl) (by kernel_rfl) (by kernel_rfl) (fun _ _ _ h => h) (Or.inl ⟨by rfl, ?_⟩) (by assumption) ?_
            rotate_left
            · intro w hSw; ((try dsimp only at hSw); go_simp; (try with_reducible rfl))
            simp only [Act.put, List.setIfInBounds_toArray, List.set_cons_zero, List.set_cons_succ]
            refine wpAnyN_take (i := 10) (v := ?_) rfl (by kernel_rfl) (by kernel_rfl) (by kernel_rfl) (by kernel_rfl) (fun _ _ _ h => h) (Or.inl ⟨by rfl, ?_⟩) (by assumption) ?_
            rotate_left
            · intro w hSw; ((try dsimp only at hSw); go_simp; (try with_reducible rfl))
            simp only [Act.put, List.setIfInBounds_toArray, List.set_cons_zero, List.set_cons_succ]
            refine wpAnyN_take (i := 11) (v := ?_) rfl (by kernel_rfl) (by kernel_rfl) (by kernel_rfl) (by kernel_rfl) (fun _ _ _ h => h) (Or.inl ⟨by rfl, ?_⟩) (by assumption) ?_
            rotate_left
            · intro w hSw; ((try dsimp only at hSw); go_simp; (try with_reducible rfl))
            simp only [Act.put, List.setIfInBounds_toArray, List.set_cons_zero, List.set_cons_succ]
            refine wpAnyN_take (i := 12) (v := ?_) rfl (by kernel_rfl) (by kernel_rfl) (by kernel_rfl) (by kernel_rfl) (fun _ _ _ h => h) (Or.inl ⟨by rfl, ?_⟩) (by assumption) ?_
            rotate_left
            · intro w hSw; ((try dsimp only at hSw); go_simp; (try with_reducible rfl))
            simp only [Act.put, List.setIfInBounds_toArray, List.set_cons_zero, List.set_cons_succ]
            refine wpAnyN_take (i := 13) (v := ?_) rfl (by kernel_rfl) (by kernel_rfl) (by kernel_rfl) (by kernel_rfl) (fun _ _ _ h => h) (Or.inl ⟨by rfl, ?_⟩) (by assumption) ?_
            rotate_left
            · intro w hSw; ((try dsimp only at hSw); go_simp; (try with_reducible rfl))
            simp only [Act.put, List.setIfInBounds_toArray, List.set_cons_zero, List.set_cons_succ]
            refine wpAnyN_take (i := 14) (v := ?_) rfl (by kernel_rfl) (by kernel_rfl) (by kernel_rfl) (by kernel_rfl) (fun _ _ _ h => h) (Or.inl ⟨by rfl, ?_⟩) (by assumption) ?_
            rotate_left
            · intro w hSw; ((try dsimp only at hSw); go_simp; (try with_reducible rfl))
            simp only [Act.put, List.setIfInBounds_toArray, List.set_cons_zero, List.set_cons_succ]
            refine wpAnyN_take (i := 15) (v := .int .i64 (lo : Int)) rfl (by kernel_rfl) (by kernel_rfl) (by kernel_rfl) (by kernel_rfl) (fun _ _ _ h => h) (Or.inl ⟨by rfl, fun w hSw => by (try dsimp only at hSw); have hq := hI.out.1; go_simp; exact wrapI (by omega)⟩) (by assumption) ?_
            simp only [Act.put, List.setIfInBounds_toArray, List.set_cons_zero, List.set_cons_succ]
            refine wpAnyN_take (i := 16) (v := ?_) rfl (by kernel_rfl) (by kernel_rfl) (by kernel_rfl) (by kernel_rfl) (fun _ _ _ h => h) (Or.inl ⟨by rfl, ?_⟩) (by assumption) ?_
            rotate_left
            · intro w hSw; ((try dsimp only at hSw); go_simp; (try with_reducible rfl))
            simp only [Act.put, List.setIfInBounds_toArray, List.set_cons_zero, List.set_cons_succ]
            refine wpAnyN_take (i := 17) (v := .int .i64 (B : Int)) rfl (by kernel_rfl) (by kernel_rfl) (by kernel_rfl) (by kernel_rfl) (fun _ _ _ h => h) (Or.inl ⟨by rfl, fun w hSw => by (try dsimp only at hSw); have hln := hlenH.out w; go_simp⟩) (by assumption) ?_
            simp only [Act.put, List.setIfInBounds_toArray, List.set_cons_zero, List.set_cons_succ]
            refine wpAnyN_take (i := 18) (v := ?_) rfl (by kernel_rfl) (by kernel_rfl) (by kernel_rfl) (by kernel_rfl) (fun _ _ _ h => h) (Or.inl ⟨by rfl, ?_⟩) (by assumption) ?_
            rotate_left
            · intro w hSw; ((try dsimp only at hSw); go_simp; (try with_reducible rfl))
            simp only [Act.put, List.setIfInBounds_toArray, List.set_cons_zero, List.set_cons_succ]
            refine wpAnyN_take (i := 19) (v := .int .i64 (lo : Int)) rfl (by kernel_rfl) (by kernel_rfl) (by kernel_rfl) (by kernel_rfl) (fun _ _ _ h => h) (Or.inl ⟨by rfl, fun w hSw => by (try dsimp only at hSw); have hq := hI.out.1; go_simp; exact wrapI (by omega)⟩) (by assumption) ?_
            simp only [Act.put, List.setIfInBounds_toArray, List.set_cons_zero, List.set_cons_succ]
            refine wpAnyN_take (i := 20) (v := .int .i64 ((lo : Int) + 480)) rfl (by kernel_rfl) (by kernel_rfl) (by kernel_rfl) (by kernel_rfl) (fun _ _ _ h => h) (Or.inl ⟨by rfl, fun w hSw => by (try dsimp only at hSw); go_simp; exact wrapI (by omega)⟩) (by assumption) ?_
            simp only [Act.put, List.setIfInBounds_toArray, List.set_cons_zero, List.set_cons_succ]
            refine wpAnyN_take (i := 21) (v := .int .i64 (hi : Int)) rfl (by kernel_rfl) (by kernel_rfl) (by kernel_rfl) (by kernel_rfl) (fun _ _ _ h => h) (Or.inl ⟨by rfl, fun w hSw => by (try dsimp only at hSw); go_simp; have hq := hI.out.2.1; split <;> omega⟩) (by assumption) ?_
            simp only [Act.put, List.setIfInBounds_toArray, List.set_cons_zero, List.set_cons_succ]
            refine wpAnyN_take (i := 22) (v := str (LogM.part b k)) rfl (by kernel_rfl) (by kernel_rfl) (by kernel_rfl) (by kernel_rfl) (fun _ _ _ h => h) (yields_run rfl (fun w hSw => ?_)) (by assumption) ?_
            · refine exec_slice 9 (.tmp 63) (some (.tmp 65)) (some (.tmp 71)) none rfl ?_
              rw [hpartH.out]
              exact hrpH.out w
            simp only [Act.put, List.setIfInBounds_toArray, List.set_cons_zero, List.set_cons_succ]
            refine wpAnyN_one (i := 23) rfl (by kernel_rfl) ?_
            go_wp2_with fail
            refine (hleafH.out wr.drew o').mono ?_; rintro e2 W2 ⟨v2, o2', rfl, hs, rfl⟩
            have hs2 : Step Nobody wr o' W2 o2' := (Step.refl Nobody wr o').drew.trans hs
            have m1 := (hs2.block p (lt_of_block h1H.out) (fun h => h)).trans h1H.out
            have m2 := (hs2.block g (lt_of_block h2H.out) (fun h => h)).trans h2H.out
            have m7 := (hs2.own g (lt_of_block h2H.out)).trans h7H.out
            have hput := hputH.out W2 o2' hs2
            have hst2 := hst.trans (hs2.only E)
            have e0 : W2.cell? ⟨p, 0, none⟩ = some (.slice (some ⟨g, 0, none⟩) N cap) := by rw [cell_of_block (cs := [_, _]) m1 0, ← hNk]; rfl
            have e1 : W2.cell? ⟨p, 1, none⟩ = some (.int .u64 (T.toNat : Int)) := cell_of_block (cs := [_, _]) m1 1
            have eg : W2.cell? ⟨g, ek, none⟩ = some x0 := by rw [cell_of_block m2 ek]; exact hx0H.out
            have fg := free_of_block m2 ek
            obtain ⟨pg, hpgE⟩ : ∃ pg, LeafM.page ⟨T, k, M, LogM.part b k⟩ = pg := ⟨_, rfl⟩
            rw [hpgE] at hput ⊢
            have hss := hst2.setCell (a := ⟨g, ek, none⟩) (str pg) (.inl (by show (o2' g).1 = E; rw [m7]))
            have q0 : (W2.setCell ⟨g, ek, none⟩ (str pg)).cell? ⟨p, 0, none⟩ = some (.slice (some ⟨g, 0, none⟩) N cap) := by rw [World.cell?_setCell_other _ _ _ _ (by intro h; exact hpg (congrArg Addr.block h).symm)]; exact e0
            have q1 : (W2.setCell ⟨g, ek, none⟩ (str pg)).cell? ⟨p, 1, none⟩ = some (.int .u64 (T.toNat : Int)) := by rw [World.cell?_setCell_other _ _ _ _ (by intro h; exact hpg (congrArg Addr.block h).symm)]; exact e1
            have hF := hidden (And.intro hput hss)
            have hQ := hidden (And.intro q0 q1)
            have hsp : str pg = .string ⟨pg.toArray⟩ := rfl
            rw [hsp] at hF hQ ⊢
            clear hsp
            clear hput hss q0 q1 hs hs2 m1 m2 m7 hst2 hst c0 c1 hHeld hpgE
            clear hleafH hputH hrpH h1H h2H h7H hx0H hpartH
            go_wp2_with fail
            refine ⟨fun _ => ⟨e0, e1⟩, ?_⟩
            refine wpAnyN_one (i := 24) rfl (by kernel_rfl) ?_
            go_wp2_with fail
            refine ⟨fun _ => ⟨e0, e1⟩, ?_⟩
            refine wpAnyN_one (i := 25) rfl (by kernel_rfl) ?_
            go_wp2_with fail
            refine ⟨fun _ => hQ.out, ?_⟩
            refine wpAnyN_done (by kernel_rfl) ?_ _
            clear e0 e1 eg fg
            go_wp2_with fail
            go_roundw
            case rel => exact ⟨k + 1, by omega, by go_num, o2', hF.out.1, hF.out.2⟩
            case measure => simp [intOf]; omega
          · have hkM : k = M := by omega
            have hge : (M : Int) ≤ (k : Int) := by omega
            go_wp2_with fail
            go_ret
            refine ⟨_, o', rfl, hst, ?_, ?_⟩
            · rw [hrcH.out]; rfl
            · rw [hrcH.out, ← hputs.out, hMH.out, ← hkM]; exact hr
      | false =>
        have hh := rhead_any hr2H.out hE
        obtain ⟨S1, hS1⟩ : ∃ S1, S + 1#64 = S1 := ⟨_, rfl⟩
        rw [hS1] at hh
        have hS1H := hidden hS1
        clear hS1
        have hhH := hidden hh
        clear hh
        go_wp2_with fail
        refine hhH.out.mono ?_
        rintro e3 w3 ⟨v3, o3, rfl, hs3, rfl, hr3⟩
        have hst3H := hidden ((hs2H.out.only E).trans hs3)
        have hr3H := hidden hr3
        clear hr3 hs3 hhH
        obtain ⟨T, hT⟩ : ∃ T, S1 + 1#64 = T := ⟨_, rfl⟩
        have hinc := wrap_inc S1
        rw [hT] at hinc
        have hincH := hidden hinc
        obtain ⟨hc1, hf1⟩ := hr3H.out.cells
        have hrs := hr3H.out.restamp T
        have hst1 := (hst3H.out).trans hrs.2
        have hstart := hidden (And.intro hrs.1 hst1)
        have hrc : rcommit b R S = ((putPages (headPages R S1) e T b, T), 0) := by unfold rcommit; rw [heH.out, hMH.out, hNH.out, hhdH.out, if_neg (by omega), if_neg (by simp)]; rw [← hT, hS1H.out]
        have hR1 : Hid (((headPages R S1)).length = N ∧ e + M ≤ N) := hidden ⟨(LogM.length_headPages _ _).trans hNH.out, hfull⟩
        have hrcH := hidden hrc
        have hputs := hidden (rput_all ((headPages R S1)) e T b (by rw [hR1.out.1, hMH.out]; exact hfull))
        generalize (headPages R S1) = R1 at *
        clear hinc hrs hst1 hrc hT
        go_wp2_with fail
        rw [hincH.out]
        generalize w3.setCell ⟨p, 1, none⟩ (.int .u64 (T.toNat : Int)) = W1 at *
        clear hc1 hf1
        go_wp2_with fail
        (try rw [hMe])
        go_loopw [9] (fun i wr => ∃ k : Nat, k ≤ M ∧ i = .int .i64 k ∧ ∃ o', RefL wr o' E p (rput R1 e T b k) T ∧ Step (Only E) w o wr o')
          (fun i _ => M - (intOf i).toNat)
        case atStart => exact ⟨0, Nat.zero_le _, rfl, o3, hstart.out.1, hstart.out.2⟩
        case round =>
          clear hstart
          obtain ⟨k, hk, rfl, o', hr, hst⟩ := hrel
          by_cases hlt : k < M
          · have hstep := rput_step R1 e T b M k hlt hMH.out
            have hlen := length_rput R1 e T b k
            obtain ⟨g, cap, cur, h1, h2, h3, h4, h5, h6, h7, h8, h9, h10⟩ := hr
            have hpg : p ≠ g := by rintro rfl; rw [h6] at h7; simp at h7
            have hNk : (rput R1 e T b k).length = N := hlen.trans hR1.out.1
            have heN := hR1.out.2
            generalize rput R1 e T b k = Rk at *
            have c0 : wr.cell? ⟨p, 0, none⟩ = some (.slice (some ⟨g, 0, none⟩) N cap) := by rw [cell_of_block (cs := [_, _]) h1 0, ← hNk]; rfl
            have c1 : wr.cell? ⟨p, 1, none⟩ = some (.int .u64 (T.toNat : Int)) := cell_of_block (cs := [_, _]) h1 1
            obtain ⟨x0, hx0⟩ : ∃ x0, cur[e + k]? = some x0 := by
              have : (cur.take Rk.length)[e + k]? = (tvs Rk)[e + k]? := by rw [h3]
              rw [List.getElem?_take, if_pos (by omega)] at this
              exact ⟨_, this.trans (List.getElem?_eq_getElem (by rw [length_tvs]; omega))⟩
            have hpl : (LogM.part b k).length ≤ 480 := by simp only [LogM.part, List.length_take]; omega
            have hleaf := fun W O => rleaf_any ⟨T, k, M, LogM.part b k⟩ hpl (by show k ≤ 65535; omega) (by show M ≤ 65535; omega) W O
            obtain ⟨ek, hek⟩ : ∃ ek, e + k = ek := ⟨_, rfl⟩
            have hekI : (e : Int) + (k : Int) = (ek : Int) := by omega
            obtain ⟨lo, hloE⟩ : ∃ lo, 480 * k = lo := ⟨_, rfl⟩
            obtain ⟨hi, hhiE⟩ : ∃ hi, min b.length (480 * k + 480) = hi := ⟨_, rfl⟩
            have hloI : (480 : Int) * (k : Int) = (lo : Int) := by omega
            have hhiI : (hi = lo + 480 ∧ lo + 480 ≤ B) ∨ (hi = B ∧ B ≤ lo + 480) := by rw [← hhiE, hBH.out, hloE]; omega
            have hpart : LogM.part b k = (b.drop lo).take (hi - lo) := by
              unfold LogM.part
              rw [hloE, ← hhiE, hBH.out, hloE]
              by_cases hc : lo + 480 ≤ B
              · rw [Nat.min_eq_right hc]; congr 1; omega
              · rw [Nat.min_eq_left (by omega), List.take_of_length_le (by rw [List.length_drop, hBH.out]; omega), List.take_of_length_le (by rw [List.length_drop, hBH.out]; omega)]
            have hrp := fun W => run_str_part W b lo hi (by rw [← hhiE, hBH.out, hloE]; omega) (by rw [← hhiE]; omega)
            have hput := fun (w2 : World) (o2 : Own) (hs2 : Step Nobody wr o' w2 o2) => (RefL.put ((hs2.block p (lt_of_block h1) (fun h => h)).trans h1) ((hs2.block g (lt_of_block h2) (fun h => h)).trans h2) h3 h4 h5 ((hs2.own p (lt_of_block h1)).trans h6) ((hs2.own g (lt_of_block h2)).trans h7) h8 h9 h10 (e + k) (LeafM.page ⟨T, k, M, LogM.part b k⟩) (LeafM.length_page hpl))
            rw [hek] at hstep; simp only [hek, hstep] at hput
            have hI := hidden (And.intro hloI (And.intro hhiI hekI))
            have hputH := hidden hput
            (try simp only [Nat.cast_one] at hleaf)
            have hleafH := hidden hleaf
            have hrpH := hidden hrp
            have hpartH := hidden hpart
            have h1H := hidden h1
            have h2H := hidden h2
            have h7H := hidden h7
            rw [hek] at hx0
            have hx0H := hidden hx0
            have hlo1 : lo ≤ 1000000 := by omega
            have hek1 : ek ≤ 2000 := by omega
            clear hput hleaf hrp hpart h3 h10 hloI hhiI hekI hhiE hloE hstep hpl hlen
            clear h1 h2 hx0
            go_wp2_with fail
            refine wp_region_need (fun w' => w'.cell? ⟨p, 0, none⟩ = some (.slice (some ⟨g, 0, none⟩) N cap) ∧ w'.cell? ⟨p, 1, none⟩ = some (.int .u64 (T.toNat : Int))) (fun _ => true) (by kernel_rfl) ⟨c0, c1⟩ (fun hHeld => ?_)
            refine wpAnyN_take (i := 0) (v := ?_) rfl (by kernel_rfl) (by kernel_rfl) (by kernel_rfl) (by kernel_rfl) (fun _ _ _ h => h) (Or.inl ⟨by rfl, ?_⟩) (by assumption) ?_
            rotate_left
            · intro w hSw; ((try dsimp only at hSw); go_simp; (try with_reducible rfl))
            simp only [Act.put, List.setIfInBounds_toArray, List.set_cons_zero, List.set_cons_succ]
            refine wpAnyN_take (i := 1) (v := ?_) rfl (by kernel_rfl) (by kernel_rfl) (by kernel_rfl) (by kernel_rfl) (fun _ _ _ h => h) (Or.inl ⟨by rfl, ?_⟩) (by assumption) ?_
            rotate_left
            · intro w hSw; ((try dsimp only at hSw); go_simp; (try with_reducible rfl))
            simp only [Act.put, List.setIfInBounds_toArray, List.set_cons_zero, List.set_cons_succ]
            refine wpAnyN_take (i := 2) (v := ?_) rfl (by kernel_rfl) (by kernel_rfl) (by kernel_rfl) (by kernel_rfl) (fun _ _ _ h => h) (Or.inl ⟨by rfl, ?_⟩) (by assumption) ?_
            rotate_left
            · intro w hSw; ((try dsimp only at hSw); go_simp; (try with_reducible rfl))
            simp only [Act.put, List.setIfInBounds_toArray, List.set_cons_zero, List.set_cons_succ]
            refine wpAnyN_take (i := 3) (v := ?_) rfl (by kernel_rfl) (by kernel_rfl) (by kernel_rfl) (by kernel_rfl) (fun _ _ _ h => h) (Or.inl ⟨by rfl, ?_⟩) (by assumption) ?_
            rotate_left
            · intro w hSw; ((try dsimp only at hSw); go_simp; (try with_reducible rfl))
            simp only [Act.put, List.setIfInBounds_toArray, List.set_cons_zero, List.set_cons_succ]
            refine wpAnyN_take (i := 4) (v := ?_) rfl (by kernel_rfl) (by kernel_rfl) (by kernel_rfl) (by kernel_rfl) (fun _ _ _ h => h) (Or.inl ⟨by rfl, ?_⟩) (by assumption) ?_
            rotate_left
            · intro w hSw; ((try dsimp only at hSw); go_simp; (try with_reducible rfl))
            simp only [Act.put, List.setIfInBounds_toArray, List.set_cons_zero, List.set_cons_succ]
            refine wpAnyN_take (i := 5) (v := ?_) rfl (by kernel_rfl) (by kernel_rfl) (by kernel_rfl) (by kernel_rfl) (fun _ _ _ h => h) (Or.inl ⟨by rfl, ?_⟩) (by assumption) ?_
            rotate_left
            · intro w hSw; ((try dsimp only at hSw); go_simp; (try with_reducible rfl))
            simp only [Act.put, List.setIfInBounds_toArray, List.set_cons_zero, List.set_cons_succ]
            refine wpAnyN_take (i := 6) (v := .int .i64 (ek : Int)) rfl (by kernel_rfl) (by kernel_rfl) (by kernel_rfl) (by kernel_rfl) (fun _ _ _ h => h) (Or.inl ⟨by rfl, fun w hSw => by (try dsimp only at hSw); have hq := hI.out.2.2; go_simp; exact wrapI (by omega)⟩) (by assumption) ?_
            simp only [Act.put, List.setIfInBounds_toArray, List.set_cons_zero, List.set_cons_succ]
            refine wpAnyN_take (i := 7) (v := ?_) rfl (by kernel_rfl) (by kernel_rfl) (by kernel_rfl) (by kernel_rfl) (fun _ _ _ h => h) (Or.inl ⟨by rfl, ?_⟩) (by assumption) ?_
            rotate_left
            · intro w hSw; ((try dsimp only at hSw); go_simp; (try with_reducible rfl))
            simp only [Act.put, List.setIfInBounds_toArray, List.set_cons_zero, List.set_cons_succ]
            refine wpAnyN_take (i := 8) (v := ?_) rfl (by kernel_rfl) (by kernel_rfl) (by kernel_rfl) (by kernel_rfl) (fun _ _ _ h => h) (Or.inl ⟨by rfl, ?_⟩) (by assumption) ?_
            rotate_left
            · intro w hSw; ((try dsimp only at hSw); go_simp; (try with_reducible rfl))
            simp only [Act.put, List.setIfInBounds_toArray, List.set_cons_zero, List.set_cons_succ]
            refine wpAnyN_take (i := 9) (v := ?_) rfl (by kernel_rfl) (by kernel_rfl) (by kernel_rfl) (by kernel_rfl) (fun _ _ _ h => h) (Or.inl ⟨by rfl, ?_⟩) (by assumption) ?_
            rotate_left
            · intro w hSw; ((try dsimp only at hSw); go_simp; (try with_reducible rfl))
            simp only [Act.put, List.setIfInBounds_toArray, List.set_cons_zero, List.set_cons_succ]
            refine wpAnyN_take (i := 10) (v := ?_) rfl (by kernel_rfl) (by kernel_rfl) (by kernel_rfl) (by kernel_rfl) (fun _ _ _ h => h) (Or.inl ⟨by rfl, ?_⟩) (by assumption) ?_
            rotate_left
            · intro w hSw; ((try dsimp only at hSw); go_simp; (try with_reducible rfl))
            simp only [Act.put, List.setIfInBounds_toArray, List.set_cons_zero, List.set_cons_succ]
            refine wpAnyN_take (i := 11) (v := ?_) rfl (by kernel_rfl) (by kernel_rfl) (by kernel_rfl) (by kernel_rfl) (fun _ _ _ h => h) (Or.inl ⟨by rfl, ?_⟩) (by assumption) ?_
            rotate_left
            · intro w hSw; ((try dsimp only at hSw); go_simp; (try with_reducible rfl))
            simp only [Act.put, List.setIfInBounds_toArray, List.set_cons_zero, List.set_cons_succ]
            refine wpAnyN_take (i := 12) (v := ?_) rfl (by kernel_rfl) (by kernel_rfl) (by kernel_rfl) (by kernel_rfl) (fun _ _ _ h => h) (Or.inl ⟨by rfl, ?_⟩) (by assumption) ?_
            rotate_left
            · intro w hSw; ((try dsimp only at hSw); go_simp; (try with_reducible rfl))
            simp only [Act.put, List.setIfInBounds_toArray, List.set_cons_zero, List.set_cons_succ]
            refine wpAnyN_take (i := 13) (v := ?_) rfl (by kernel_rfl) (by kernel_rfl) (by kernel_rfl) (by kernel_rfl) (fun _ _ _ h => h) (Or.inl ⟨by rfl, ?_⟩) (by assumption) ?_
            rotate_left
            · intro w hSw; ((try dsimp only at hSw); go_simp; (try with_reducible rfl))
            simp only [Act.put, List.setIfInBounds_toArray, List.set_cons_zero, List.set_cons_succ]
            refine wpAnyN_take (i := 14) (v := ?_) rfl (by kernel_rfl) (by kernel_rfl) (by kernel_rfl) (by kernel_rfl) (fun _ _ _ h => h) (Or.inl ⟨by rfl, ?_⟩) (by assumption) ?_
            rotate_left
            · intro w hSw; ((try dsimp only at hSw); go_simp; (try with_reducible rfl))
            simp only [Act.put, List.setIfInBounds_toArray, List.set_cons_zero, List.set_cons_succ]
            refine wpAnyN_take (i := 15) (v := .int .i64 (lo : Int)) rfl (by kernel_rfl) (by kernel_rfl) (by kernel_rfl) (by kernel_rfl) (fun _ _ _ h => h) (Or.inl ⟨by rfl, fun w hSw => by (try dsimp only at hSw); have hq := hI.out.1; go_simp; exact wrapI (by omega)⟩) (by assumption) ?_
            simp only [Act.put, List.setIfInBounds_toArray, List.set_cons_zero, List.set_cons_succ]
            refine wpAnyN_take (i := 16) (v := ?_) rfl (by kernel_rfl) (by kernel_rfl) (by kernel_rfl) (by kernel_rfl) (fun _ _ _ h => h) (Or.inl ⟨by rfl, ?_⟩) (by assumption) ?_
            rotate_left
            · intro w hSw; ((try dsimp only at hSw); go_simp; (try with_reducible rfl))
            simp only [Act.put, List.setIfInBounds_toArray, List.set_cons_zero, List.set_cons_succ]
            refine wpAnyN_take (i := 17) (v := .int .i64 (B : Int)) rfl (by kernel_rfl) (by kernel_rfl) (by kernel_rfl) (by kernel_rfl) (fun _ _ _ h => h) (Or.inl ⟨by rfl, fun w hSw => by (try dsimp only at hSw); have hln := hlenH.out w; go_simp⟩) (by assumption) ?_
            simp only [Act.put, List.setIfInBounds_toArray, List.set_cons_zero, List.set_cons_succ]
            refine wpAnyN_take (i := 18) (v := ?_) rfl (by kernel_rfl) (by kernel_rfl) (by kernel_rfl) (by kernel_rfl) (fun _ _ _ h => h) (Or.inl ⟨by rfl, ?_⟩) (by assumption) ?_
            rotate_left
            · intro w hSw; ((try dsimp only at hSw); go_simp; (try with_reducible rfl))
            simp only [Act.put, List.setIfInBounds_toArray, List.set_cons_zero, List.set_cons_succ]
            refine wpAnyN_take (i := 19) (v := .int .i64 (lo : Int)) rfl (by kernel_rfl) (by kernel_rfl) (by kernel_rfl) (by kernel_rfl) (fun _ _ _ h => h) (Or.inl ⟨by rfl, fun w hSw => by (try dsimp only at hSw); have hq := hI.out.1; go_simp; exact wrapI (by omega)⟩) (by assumption) ?_
            simp only [Act.put, List.setIfInBounds_toArray, List.set_cons_zero, List.set_cons_succ]
            refine wpAnyN_take (i := 20) (v := .int .i64 ((lo : Int) + 480)) rfl (by kernel_rfl) (by kernel_rfl) (by kernel_rfl) (by kernel_rfl) (fun _ _ _ h => h) (Or.inl ⟨by rfl, fun w hSw => by (try dsimp only at hSw); go_simp; exact wrapI (by omega)⟩) (by assumption) ?_
            simp only [Act.put, List.setIfInBounds_toArray, List.set_cons_zero, List.set_cons_succ]
            refine wpAnyN_take (i := 21) (v := .int .i64 (hi : Int)) rfl (by kernel_rfl) (by kernel_rfl) (by kernel_rfl) (by kernel_rfl) (fun _ _ _ h => h) (Or.inl ⟨by rfl, fun w hSw => by (try dsimp only at hSw); go_simp; have hq := hI.out.2.1; split <;> omega⟩) (by assumption) ?_
            simp only [Act.put, List.setIfInBounds_toArray, List.set_cons_zero, List.set_cons_succ]
            refine wpAnyN_take (i := 22) (v := str (LogM.part b k)) rfl (by kernel_rfl) (by kernel_rfl) (by kernel_rfl) (by kernel_rfl) (fun _ _ _ h => h) (yields_run rfl (fun w hSw => ?_)) (by assumption) ?_
            · refine exec_slice 9 (.tmp 63) (some (.tmp 65)) (some (.tmp 71)) none rfl ?_
              rw [hpartH.out]
              exact hrpH.out w
            simp only [Act.put, List.setIfInBounds_toArray, List.set_cons_zero, List.set_cons_succ]
            refine wpAnyN_one (i := 23) rfl (by kernel_rfl) ?_
            go_wp2_with fail
            refine (hleafH.out wr.drew o').mono ?_; rintro e2 W2 ⟨v2, o2', rfl, hs, rfl⟩
            have hs2 : Step Nobody wr o' W2 o2' := (Step.refl Nobody wr o').drew.trans hs
            have m1 := (hs2.block p (lt_of_block h1H.out) (fun h => h)).trans h1H.out
            have m2 := (hs2.block g (lt_of_block h2H.out) (fun h => h)).trans h2H.out
            have m7 := (hs2.own g (lt_of_block h2H.out)).trans h7H.out
            have hput := hputH.out W2 o2' hs2
            have hst2 := hst.trans (hs2.only E)
            have e0 : W2.cell? ⟨p, 0, none⟩ = some (.slice (some ⟨g, 0, none⟩) N cap) := by rw [cell_of_block (cs := [_, _]) m1 0, ← hNk]; rfl
            have e1 : W2.cell? ⟨p, 1, none⟩ = some (.int .u64 (T.toNat : Int)) := cell_of_block (cs := [_, _]) m1 1
            have eg : W2.cell? ⟨g, ek, none⟩ = some x0 := by rw [cell_of_block m2 ek]; exact hx0H.out
            have fg := free_of_block m2 ek
            obtain ⟨pg, hpgE⟩ : ∃ pg, LeafM.page ⟨T, k, M, LogM.part b k⟩ = pg := ⟨_, rfl⟩
            rw [hpgE] at hput ⊢
            have hss := hst2.setCell (a := ⟨g, ek, none⟩) (str pg) (.inl (by show (o2' g).1 = E; rw [m7]))
            have q0 : (W2.setCell ⟨g, ek, none⟩ (str pg)).cell? ⟨p, 0, none⟩ = some (.slice (some ⟨g, 0, none⟩) N cap) := by rw [World.cell?_setCell_other _ _ _ _ (by intro h; exact hpg (congrArg Addr.block h).symm)]; exact e0
            have q1 : (W2.setCell ⟨g, ek, none⟩ (str pg)).cell? ⟨p, 1, none⟩ = some (.int .u64 (T.toNat : Int)) := by rw [World.cell?_setCell_other _ _ _ _ (by intro h; exact hpg (congrArg Addr.block h).symm)]; exact e1
            have hF := hidden (And.intro hput hss)
            have hQ := hidden (And.intro q0 q1)
            have hsp : str pg = .string ⟨pg.toArray⟩ := rfl
            rw [hsp] at hF hQ ⊢
            clear hsp
            clear hput hss q0 q1 hs hs2 m1 m2 m7 hst2 hst c0 c1 hHeld hpgE
            clear hleafH hputH hrpH h1H h2H h7H hx0H hpartH
            go_wp2_with fail
            refine ⟨fun _ => ⟨e0, e1⟩, ?_⟩
            refine wpAnyN_one (i := 24) rfl (by kernel_rfl) ?_
            go_wp2_with fail
            refine ⟨fun _ => ⟨e0, e1⟩, ?_⟩
            refine wpAnyN_one (i := 25) rfl (by kernel_rfl) ?_
            go_wp2_with fail
            refine ⟨fun _ => hQ.out, ?_⟩
            refine wpAnyN_done (by kernel_rfl) ?_ _
            clear e0 e1 eg fg
            go_wp2_with fail
            go_roundw
            case rel => exact ⟨k + 1, by omega, by go_num, o2', hF.out.1, hF.out.2⟩
            case measure => simp [intOf]; omega
          · have hkM : k = M := by omega
            have hge : (M : Int) ≤ (k : Int) := by omega
            go_wp2_with fail
            go_ret
            refine ⟨_, o', rfl, hst, ?_, ?_⟩
            · rw [hrcH.out]; rfl
            · rw [hrcH.out, ← hputs.out, hMH.out, ← hkM]; exact hr
end Go.Proofs.YtfgggkheadfiaaaR
/- Plain laws: a log with power beside the document's own: each act comes to the same, page by page, whatever the pages hold. No program in sight. -/
namespace Go.Proofs.YtfgggkheadfiaaaR
open Go Go.RowKit

namespace LogM
/-- A disk with power and no countdown, of N pages. -/
structure OnD (N : Nat) (d : DiskM) : Prop where
  dd : d.dead = false
  left : d.left < 0
  wf : d.wf
  len : d.pages.length = N
theorem OnD.write {N : Nat} {d : DiskM} (h : OnD N d) (j : Nat) (hj : j < N) (l : List UInt8) (hl : l.length = 512) :
    ∃ d', d.write (j : Int) l = (d', 0) ∧ OnD N d' ∧ (∀ i, d'.seen i = if j = i then l else d.seen i) ∧ d'.row.length = d.row.length + 1 := by
  have hw := DiskM.write_in h.dd (j := j) (by rw [h.len]; exact hj) hl
  have hlf := h.left
  rw [if_neg (by omega)] at hw
  obtain ⟨t1, t2, t3⟩ := DiskM.tick_same d
  have t4 := (DiskM.tick_left d).1 h.left
  have t5 := h.len
  obtain ⟨w1, w2, w3, w4, w5, w6⟩ := h.wf
  refine ⟨_, hw, ⟨t3.trans h.dd, ?_, ⟨?_, ?_, ?_, ?_, ?_, ?_⟩, ?_⟩, fun i => ?_, by simp⟩
  · show d.tick.left < 0; omega
  · show 1 ≤ d.tick.pages.length; rw [t1]; exact w1
  · show d.tick.pages.length ≤ _; rw [t1]; exact w2
  · show ∀ p ∈ d.tick.pages, _; rw [t1]; exact w3
  · show ∀ x ∈ d.row ++ [(j, l)], x.1 < d.tick.pages.length ∧ _
    rw [t1]
    intro x hx
    rcases List.mem_append.1 hx with hx | hx
    · exact w4 x hx
    · simp only [List.mem_singleton] at hx
      subst hx
      exact ⟨by show j < _; omega, hl⟩
  · show -1 ≤ d.tick.left; omega
  · show d.tick.left ≤ _; omega
  · show d.tick.pages.length = N; rw [t1]; exact t5
  · show DiskM.seenIn i (d.tick.pages.getD i []) (d.row ++ [(j, l)]) = _
    rw [DiskM.seenIn_snoc, t1]; rfl
theorem OnD.sync {N : Nat} {d : DiskM} (h : OnD N d) : ∃ d', d.sync = (d', 0) ∧ OnD N d' ∧ (∀ i, d'.seen i = d.seen i) ∧ d'.row = [] := by
  obtain ⟨w1, w2, w3, w4, w5, w6⟩ := h.wf
  have hw := DiskM.sync_in h.dd (by omega)
  have hlf := h.left
  rw [if_neg (by omega)] at hw
  obtain ⟨t1, t2, t3⟩ := DiskM.tick_same d
  have t4 := (DiskM.tick_left d).1 h.left
  have hpw := DiskM.donePages_wf (fun _ => 512) (by simp) d.pages w3 d.row w4
  have hlen : (d.tick.done fun _ => 512).pages.length = d.pages.length := by
    show (DiskM.donePages _ d.tick.pages d.tick.row).length = _
    rw [t1, t2, hpw.1]
  refine ⟨_, hw, ⟨t3.trans h.dd, ?_, ⟨?_, ?_, ?_, ?_, ?_, ?_⟩, ?_⟩, fun i => ?_, rfl⟩
  · show d.tick.left < 0; omega
  · rw [hlen]; exact w1
  · rw [hlen]; exact w2
  · show ∀ p ∈ DiskM.donePages _ d.tick.pages d.tick.row, _; rw [t1, t2]; exact hpw.2
  · intro x hx; cases hx
  · show -1 ≤ d.tick.left; omega
  · show d.tick.left ≤ _; omega
  · rw [hlen]; exact h.len
  · have := DiskM.seen_done h.wf i
    rw [← this]
    show (DiskM.donePages (fun _ => 512) d.tick.pages d.tick.row).getD i [] = (DiskM.donePages (fun _ => 512) d.pages d.row).getD i []
    rw [t1, t2]
theorem OnD.put {N : Nat} (l : LogM) (of' : Nat) (b : List UInt8) : ∀ (k i : Nat) (d : DiskM), OnD N d → l.first + l.end' + i + k ≤ N →
    ∃ d', put l of' b k i d = (d', 0) ∧ OnD N d' ∧ ∀ j, d'.seen j = if l.first + l.end' + i ≤ j ∧ j < l.first + l.end' + i + k then LeafM.page ⟨l.stamp, j - (l.first + l.end'), of', part b (j - (l.first + l.end'))⟩ else d.seen j
  | 0, i, d, h, _ => ⟨d, rfl, h, fun j => by rw [if_neg (by omega)]⟩
  | k + 1, i, d, h, hf => by
    obtain ⟨d1, e1, h1, s1, -⟩ := h.write (l.first + l.end' + i) (by omega) (LeafM.page ⟨l.stamp, i, of', part b i⟩) (LeafM.length_page (length_part _ _))
    obtain ⟨d2, e2, h2, s2⟩ := OnD.put l of' b k (i + 1) d1 h1 (by omega)
    refine ⟨d2, ?_, h2, fun j => ?_⟩
    · unfold LogM.put
      simp only [e1, e2]
      simp
    · rw [s2, s1]
      by_cases hj : l.first + l.end' + i = j
      · rw [if_neg (by omega), if_pos hj, if_pos (by omega), show j - (l.first + l.end') = i from by omega]
      · rw [if_neg hj]
        by_cases hk : l.first + l.end' + (i + 1) ≤ j ∧ j < l.first + l.end' + (i + 1) + k
        · rw [if_pos hk, if_pos (by omega)]
        · rw [if_neg hk, if_neg (by omega)]

/-- Power on; the part f, k shows the pages R; the log is what they tell. -/
structure On (f k N : Nat) (s : LogM × DiskM) (R : List (List UInt8)) : Prop where
  log : s.1 = ofPages f R
  see : seenPages s.2 f k = R
  disk : OnD N s.2
  fit : f + k ≤ N
  k2 : 2 ≤ k
theorem On.len {f k N : Nat} {s : LogM × DiskM} {R : List (List UInt8)} (h : On f k N s R) : R.length = k := by rw [← h.see, length_seenPages]
theorem seen_set {d d' : DiskM} {f k p : Nat} {l : List UInt8} (h : ∀ i, d'.seen i = if f + p = i then l else d.seen i) (_hp : p < k) : seenPages d' f k = (seenPages d f k).set p l := by
  refine seenPages_ext (by simp [length_seenPages]) fun j hj => ?_
  rw [List.getElem?_set, h, length_seenPages]
  by_cases hpj : p = j
  · subst hpj; simp [hj]
  · rw [if_neg hpj, if_neg (by omega), get_seenPages _ _ _ _ hj]
theorem seen_same {d d' : DiskM} {f k : Nat} (h : ∀ i, d'.seen i = d.seen i) : seenPages d' f k = seenPages d f k := by
  unfold seenPages
  apply List.map_congr_left
  intro i _
  exact h _
theorem head_onD {f k N : Nat} (l : LogM) (hlf : l.first = f) {d : DiskM} (h : OnD N d) (hf : f + k ≤ N) (hk : 2 ≤ k) :
    ∃ d', head (l, d) = (({ l with stamp := l.stamp + 1#64 }, d'), 0) ∧ OnD N d' ∧ seenPages d' f k = headPages (seenPages d f k) (l.stamp + 1#64) ∧ d'.row = [] := by
  obtain ⟨d1, e1, h1, s1, -⟩ := h.write f (by omega) (LeafM.page ⟨l.stamp + 1#64, 0, 0, []⟩) (LeafM.length_page (by simp))
  obtain ⟨d2, e2, h2, s2, r2⟩ := h1.sync
  refine ⟨d2, ?_, h2, ?_, r2⟩
  · unfold head
    simp only [hlf, e1, e2]
    simp
  · rw [seen_same s2, seen_set (p := 0) (l := LeafM.page ⟨l.stamp + 1#64, 0, 0, []⟩) (by simpa using s1) (by omega)]; rfl
theorem next_nat {S : BitVec 64} (h : S.toNat + 1 < 2 ^ 64) : (S + 1#64).toNat = S.toNat + 1 := by
  rw [BitVec.toNat_add]; simp; omega
theorem On.reset {f k N : Nat} {s : LogM × DiskM} {R : List (List UInt8)} (h : On f k N s R) (hS : (newest R).toNat + 1 < 2 ^ 64) :
    ∃ s', LogM.reset s = (s', 0) ∧ On f k N s' (headPages R (newest R + 1#64)) ∧ newest (headPages R (newest R + 1#64)) = newest R + 1#64 ∧ s'.2.row = [] := by
  obtain ⟨l, d⟩ := s
  have hl : l = ofPages f R := h.log
  have hstamp : l.stamp = newest R := by rw [hl]; rfl
  obtain ⟨d', e1, h1, s1, r1⟩ := head_onD l (by rw [hl]; rfl) h.disk h.fit h.k2
  have hlen := h.len
  have hk2 := h.k2
  have hnx := next_nat hS
  have hsee : seenPages d f k = R := h.see
  rw [hsee, hstamp] at s1
  rw [hstamp] at e1
  have hop := ofPages_head (f := f) (pages := R) (S := newest R + 1#64) (by omega) (by omega)
  refine ⟨({ l with stamp := newest R + 1#64, headed := true, records := [], end' := 1 }, d'), ?_, ⟨?_, s1, h1, h.fit, h.k2⟩, newest_head (by omega) (by omega), r1⟩
  · unfold LogM.reset alive
    have hdd : d.dead = false := h.disk.dd
    have hld : l.dead = false := by rw [hl]; rfl
    simp only [hdd, hld, Bool.or_self, Bool.false_eq_true, if_false, steps, e1]
    simp [reset2]
  · rw [hop, hl]; rfl
theorem seen_putPages {d d' : DiskM} {f k e : Nat} {S : BitVec 64} {b : List UInt8} (_he : e + many b ≤ k) (h : ∀ j, d'.seen j = if f + e + 0 ≤ j ∧ j < f + e + 0 + many b then LeafM.page ⟨S, j - (f + e), many b, part b (j - (f + e))⟩ else d.seen j) :
    seenPages d' f k = putPages (seenPages d f k) e S b := by
  refine seenPages_ext (by simp [length_putPages, length_seenPages]) fun j hj => ?_
  rw [get_putPages, length_seenPages, if_pos hj, h]
  by_cases hx : e ≤ j ∧ j < e + many b
  · rw [if_pos hx, if_pos (by omega), show f + j - (f + e) = j - e from by omega]
  · rw [if_neg hx, if_neg (by omega), get_seenPages _ _ _ _ hj]
theorem step3_onD {f k N e : Nat} (l : LogM) (hlf : l.first = f) (hle : l.end' = e) {d : DiskM} (h : OnD N d) (hf : f + k ≤ N) (b : List UInt8) (he : e + many b ≤ k) :
    ∃ d', step3 b (l, d) = (({ l with stamp := l.stamp + 1#64 }, d'), 0) ∧ OnD N d' ∧ seenPages d' f k = putPages (seenPages d f k) e (l.stamp + 1#64) b ∧ d'.row = [] := by
  obtain ⟨d1, e1, h1, s1⟩ := OnD.put { l with stamp := l.stamp + 1#64 } (many b) b (many b) 0 d h (by show l.first + l.end' + 0 + many b ≤ N; omega)
  obtain ⟨d2, e2, h2, s2, r2⟩ := h1.sync
  refine ⟨d2, ?_, h2, ?_, r2⟩
  · unfold step3
    simp only [e1, e2]
    simp
  · rw [seen_same s2]
    refine seen_putPages he ?_
    simp only [hlf, hle] at s1
    exact s1
theorem On.commit {f k N : Nat} {s : LogM × DiskM} {R : List (List UInt8)} (h : On f k N s R) (b : List UInt8) (hb : many b < 65536) (hS : (newest R).toNat + 2 < 2 ^ 64) :
    ∃ s', LogM.commit b s = (s', (rcommit b R (newest R)).2) ∧ On f k N s' (rcommit b R (newest R)).1.1 ∧ newest (rcommit b R (newest R)).1.1 = (rcommit b R (newest R)).1.2 ∧
      s'.2.row.length ≤ s.2.row.length ∧ (rcommit b R (newest R)).1.2.toNat ≤ (newest R).toNat + 2 := by
  obtain ⟨l, d⟩ := s
  have hl : l = ofPages f R := h.log
  have hstamp : l.stamp = newest R := by rw [hl]; rfl
  have hlen := h.len
  have hk2 := h.k2
  have hsee : seenPages d f k = R := h.see
  have hdd : d.dead = false := h.disk.dd
  have hld : l.dead = false := by rw [hl]; rfl
  have hn : l.n = k := by rw [hl]; exact hlen
  have he0 : (ofPages 0 R).end' = (ofPages f R).end' := rfl
  have hle : l.end' = (ofPages f R).end' := by rw [hl]
  have hlf : l.first = f := by rw [hl]; rfl
  have hend := end_le f R (by omega)
  obtain ⟨e, hee⟩ : ∃ e, (ofPages f R).end' = e := ⟨_, rfl⟩
  rw [hee] at he0 hle hend
  unfold rcommit
  rw [he0, hlen]
  by_cases hfull : k < e + many b
  · rw [if_pos hfull]
    exact ⟨(l, d), commit_full hld hdd b (by show l.n - l.end' < many b; omega), h, rfl, Nat.le_refl _, by show (newest R).toNat ≤ _; omega⟩
  · rw [if_neg hfull]
    have h1 : step1 b (l, d) = ((l, d), 0) := by unfold step1; rw [if_neg (by show ¬ (l.n - l.end' < many b); omega)]
    have hnx := next_nat (S := newest R) (by omega)
    have hhd : (ofPages 0 R).headed = l.headed := by rw [hl]; rfl
    rw [hhd]
    cases hh : l.headed with
    | true =>
      obtain ⟨d', e3, h3, s3, r3⟩ := step3_onD l hlf hle h.disk h.fit b (by omega)
      rw [hstamp] at e3 s3
      rw [hsee] at s3
      have hop := ofPages_put (f := f) (pages := R) (S := newest R + 1#64) (b := b) (by rw [← hl]; exact hh) (by omega) hb (by rw [hee]; omega)
      rw [hee] at hop
      refine ⟨({ l with stamp := newest R + 1#64, records := l.records ++ [b], end' := e + many b }, d'), ?_, ⟨?_, s3, h3, h.fit, h.k2⟩, newest_put (by omega) (by omega), by rw [r3]; simp, by show (newest R + 1#64).toNat ≤ _; omega⟩
      · unfold LogM.commit alive
        simp only [hdd, hld, Bool.or_self, Bool.false_eq_true, if_false, steps]
        rw [h1]
        simp only [ne_eq, not_true_eq_false, if_false]
        have h2 : step2 (l, d) = ((l, d), 0) := by unfold step2; rw [if_pos hh]
        rw [h2]
        simp only [not_true_eq_false, if_false]
        rw [e3]
        simp [step4, hle, hld]
      · show _ = ofPages f (putPages R e (newest R + 1#64) b)
        rw [hop]
        show ({ l with stamp := newest R + 1#64, records := l.records ++ [b], end' := e + many b } : LogM) = _
        have : l = { first := f, n := R.length, stamp := l.stamp, headed := true, end' := l.end', records := (ofPages f R).records, dead := false } := by
          rw [← hh, ← hld]
          rw [hl]; rfl
        rw [this]
    | false =>
      have hnx2 := next_nat (S := newest R + 1#64) (by omega)
      obtain ⟨d2, e2, h2, s2, r2⟩ := head_onD l hlf h.disk h.fit h.k2
      rw [hstamp] at e2 s2
      rw [hsee] at s2
      have hop1 := ofPages_head (f := f) (pages := R) (S := newest R + 1#64) (by omega) (by omega)
      have hnh := newest_head (pages := R) (S := newest R + 1#64) (by omega) (by omega)
      have hln2 := length_headPages R (newest R + 1#64)
      have hen1 : e = 1 := by
        rw [← hee]
        show (if isHead (leavesOf R) then _ else 1) = 1
        have : isHead (leavesOf R) = false := by
          have h0 : (ofPages 0 R).headed = isHead (leavesOf R) := rfl
          rw [← h0, hhd, hh]
        rw [this]; rfl
      subst hen1
      obtain ⟨d3, e3, h3, s3, r3⟩ := step3_onD { l with stamp := newest R + 1#64, headed := true } hlf hle h2 h.fit b (by omega)
      rw [s2] at s3
      obtain ⟨R1, hR1⟩ : ∃ R1, headPages R (newest R + 1#64) = R1 := ⟨_, rfl⟩
      rw [hR1] at hop1 hnh hln2 s3 ⊢
      have hop := ofPages_put (f := f) (pages := R1) (S := newest R + 1#64 + 1#64) (b := b) (by rw [hop1]) (by rw [hnh]; omega) hb (by rw [hop1]; show 1 + many b ≤ _; omega)
      rw [hop1] at hop
      simp only [List.nil_append] at hop
      have hrec : l.records = [] := by
        rw [hl]
        show (if isHead (leavesOf R) then _ else []) = []
        have : isHead (leavesOf R) = false := by
          have h0 : (ofPages 0 R).headed = isHead (leavesOf R) := rfl
          rw [← h0, hhd, hh]
        rw [this]; rfl
      refine ⟨({ l with stamp := newest R + 1#64 + 1#64, headed := true, records := [b], end' := 1 + many b }, d3), ?_, ⟨?_, s3, h3, h.fit, h.k2⟩, newest_put (by rw [hnh]; omega) (by omega), by rw [r3]; simp, by show (newest R + 1#64 + 1#64).toNat ≤ _; omega⟩
      · unfold LogM.commit alive
        simp only [hdd, hld, Bool.or_self, Bool.false_eq_true, if_false, steps]
        rw [h1]
        simp only [ne_eq, not_true_eq_false, if_false]
        have h2 : step2 (l, d) = (({ l with stamp := newest R + 1#64, headed := true }, d2), 0) := by unfold step2; rw [if_neg (by simp [hh])]; simp [e2]
        rw [h2]
        simp only [not_true_eq_false, if_false]
        rw [e3]
        simp [step4, hle, hrec, hld]
      · show _ = ofPages f (putPages R1 1 (newest R + 1#64 + 1#64) b)
        rw [hop]
        show ({ l with stamp := newest R + 1#64 + 1#64, headed := true, records := [b], end' := 1 + many b } : LogM) = _
        rw [hl, hln2]; rfl
end LogM
end Go.Proofs.YtfgggkheadfiaaaR
/- The law's own comparison of layer 8 (fn 46): where log and document agree, it says so. -/
namespace Go.Proofs.YtfgggkheadfiaaaR
open Go Go.RowKit
open LogM (many putPages headPages ofPages)
attribute [local go_sem ↓] Go.wp_at_zero Go.wp_at_succ

set_option maxRecDepth 100000 in
set_option maxHeartbeats 3200000 in
theorem same_any {w : World} {o : Own} {L D E p pd pr : Nat} {s : LogM × DiskM} {R : List (List UInt8)} {S : BitVec 64} (h : LD w o L D p pd s) (hr : RefL w o E pr R S) (first : Nat) (hf : first ≤ 4000)
    (hrec : s.1.records = (ofPages 0 R).records) (hroom : s.1.room = 480 * (R.length - (ofPages 0 R).end')) (hrow : s.2.row.length ≤ 1000000) (hsee : ∀ i, i < R.length → s.2.read ((first + i : Nat) : Int) = (R.getD i [], 0)) :
    Calls Try.prog 46 #[.pointer (some ⟨pd, 0, none⟩), .pointer (some ⟨p, 0, none⟩), .pointer (some ⟨pr, 0, none⟩), .int .i64 (first : Int)] w (Ret Nobody w o fun v _ _ => v = .bool true) := by
  obtain ⟨g0, cap0, c0, hcall⟩ := hr.records
  obtain ⟨e, hee⟩ : ∃ e, (ofPages 0 R).end' = e := ⟨_, rfl⟩
  have hend := LogM.end_le 0 R (by obtain ⟨_, _, _, _, _, _, _, _, _, _, h1, _⟩ := hr; exact h1)
  rw [hee] at hend hroom
  obtain ⟨N, hN⟩ : ∃ N, R.length = N := ⟨_, rfl⟩
  obtain ⟨rs, hrs⟩ : ∃ rs, (ofPages 0 R).records = rs := ⟨_, rfl⟩
  have hrsl : rs.length ≤ 2000 := by
    have := h.1.wf
    rw [← hrs, ← hrec]; obtain ⟨g1, g2, g3, g4, g5, g6, g7⟩ := this; omega
  obtain ⟨K, hK⟩ : ∃ K, rs.length = K := ⟨_, rfl⟩
  have hN2 : N ≤ 2000 := by rw [← hN]; obtain ⟨_, _, _, _, _, _, _, _, _, _, _, h1, _⟩ := hr; exact h1
  rw [hrs] at hrec
  rw [hN] at hend hroom hsee c0
  rw [hK] at hrsl
  unfold RecsV at hcall
  rw [hrs, hee, hN, hK] at hcall
  have hcallH := hidden hcall
  have hH := hidden (And.intro h hr)
  have hsz := hidden (show pr < w.heap.size ∧ (o pr).1 = E by
    obtain ⟨g, cap, cur, h1, h2, h3, h4, h5, h6, h7, h8, h9, h10⟩ := hr
    exact ⟨lt_of_block h1, by rw [h6]⟩)
  have hbat := fun (w2 : World) (o2 : Own) (h2 : LD w2 o2 L D p pd s) => batches_is h2.1 rs hrec
  rw [hK] at hbat
  have hbatH := hidden hbat
  have hroomH := hidden (fun (w2 : World) (o2 : Own) (h2 : LD w2 o2 L D p pd s) => room_is h2.1 _ hroom)
  have hrdH := hidden (fun (w2 : World) (o2 : Own) (h2 : LD w2 o2 L D p pd s) (i : Nat) (hi : i < N) => read_is h2.2 hrow _ (hsee i hi))
  have hrsH := hidden (And.intro hK hrec)
  have hgc := hidden (show ∀ (wr : World) (oj : Own), Step Nobody w o wr oj → wr.cell? ⟨pr, 0, none⟩ = some (.slice (some ⟨g0, 0, none⟩) N cap0) ∧ ∀ i, i < N → wr.cell? ⟨g0, i, none⟩ = some (str (R.getD i [])) from fun wr oj hs => by
    obtain ⟨g, cap, cur, h1, h2, h3, h4, h5, h6, h7, h8, h9, h10⟩ := hr
    have e0 : w.cell? ⟨pr, 0, none⟩ = some (.slice (some ⟨g, 0, none⟩) R.length cap) := cell_of_block (cs := [_, _]) h1 0
    rw [c0] at e0
    simp only [Option.some.injEq, Value.slice.injEq, Addr.mk.injEq, and_true] at e0
    obtain ⟨rfl, eN, rfl⟩ := e0
    refine ⟨by rw [World.cell?_of_block (w := w) (a := ⟨pr, 0, none⟩) (hs.block pr (lt_of_block h1) (fun h => h))]; exact c0, fun i hi => ?_⟩
    rw [World.cell?_of_block (w := w) (a := ⟨g0, i, none⟩) (hs.block g0 (lt_of_block h2) (fun h => h)), cell_of_block h2 i]
    have : (cur.take R.length)[i]? = (tvs R)[i]? := by rw [h3]
    rw [List.getElem?_take, if_pos (by omega)] at this
    rw [this]
    exact get_tvs R i (by omega))
  have hlen := hidden (show ∀ i, i < N → (R.getD i []).length = 512 from fun i hi => by
    obtain ⟨g, cap, cur, h1, h2, h3, h4, h5, h6, h7, h8, h9, h10⟩ := hr
    rw [List.getD_eq_getElem?_getD, List.getElem?_eq_getElem (by omega)]
    exact h10 _ (List.getElem_mem _))
  clear hcall h hr hsee hbat hroom hK hrs hee hrec hrow
  have hNH := hidden hN
  clear hN
  go_enter Try.func46, Try.ntmps46
  go_wp2_with fail
  refine hcallH.out.mono ?_
  rintro e1 w2 ⟨v, o2, rfl, hs2, ⟨rv, rfl, hown⟩, hnew⟩
  have hld2 := hH.out.1.step hs2 (fun h => h) (fun h => h) (fun h => h)
  have hsl := own_slc hown (o := o2) (fun k hk => by rw [hnew k (hown.lt k hk).1])
  obtain ⟨ra, rc, rfl⟩ := slc_form hsl
  have hb2 := hbatH.out w2 o2 hld2
  have hst := hs2
  clear hs2 hown hnew hcallH hbatH
  go_wp2_with fail
  refine hb2.mono ?_
  rintro e1 w3 ⟨v, o3, rfl, hs3, vs, hown, -, hrows, hnew⟩
  have hbs := own_slc hown (o := o3) (fun k hk => by rw [hnew k (hown.lt k hk).1])
  obtain ⟨ba, bc, rfl⟩ := slc_form hbs
  have hld := hld2.step hs3 (fun h => h) (fun h => h) (fun h => h)
  have hsl := hsl.step hs3 (fun h => h)
  have hst := hst.trans hs3
  have hrm := fun w4 h4 => hroomH.out w4 o3 h4
  have c3 : w3.drew.cell? ⟨pr, 0, none⟩ = some (.slice (some ⟨g0, 0, none⟩) N cap0) := by
    rw [World.cell?_of_block (w := w) (a := ⟨pr, 0, none⟩) (by show w3.heap[pr]? = _; exact hst.block pr hsz.out.1 (fun h => h))]; exact c0
  have hb0 : (0 : Int) ≤ (e : Int) ∧ (e : Int) ≤ (N : Int) ∧ (N : Int) ≤ 2000 := by omega
  have hsub : (480 : Int) * ((N : Int) - (e : Int)) = ((480 * (N - e) : Nat) : Int) := by omega
  have hwr : IntKind.i64.wrap (480 * IntKind.i64.wrap ((N : Int) - (e : Int))) = ((480 * (N - e) : Nat) : Int) := by
    rw [wrapI (x := (N : Int) - (e : Int)) (by omega), wrapI (by omega), hsub]
  obtain ⟨rm, hrmE⟩ : ∃ rm : Nat, 480 * (N - e) = rm := ⟨_, rfl⟩
  rw [hrmE] at hwr hrm
  have hwrH := hidden hwr
  have hrmH := hidden hrm
  have hbH := hidden hb0
  have hrowsH := hidden hrows
  have hpr := hidden (And.intro (show pr < w3.heap.size from Nat.lt_of_lt_of_le hsz.out.1 hst.size) c3)
  clear hrm hb2 hs3 hown hnew hld2 hwr hb0 hsub hrmE hrows hroomH
  go_wp2_with fail
  refine wp_region_need (fun w' => w'.cell? ⟨pr, 0, none⟩ = some (.slice (some ⟨g0, 0, none⟩) N cap0)) (fun _ => true) (by kernel_rfl) c3 (fun hHeld => ?_)
  refine wpAnyN_take (i := 0) (v := ?_) rfl (by kernel_rfl) (by kernel_rfl) (by kernel_rfl) (by kernel_rfl) (fun _ _ _ h => h) (Or.inl ⟨by rfl, ?_⟩) (by assumption) ?_
  rotate_left
  · intro w hSw; ((try dsimp only at hSw); go_simp; (try with_reducible rfl))
  simp only [Act.put, List.setIfInBounds_toArray, List.set_cons_zero, List.set_cons_succ]
  refine wpAnyN_take (i := 1) (v := ?_) rfl (by kernel_rfl) (by kernel_rfl) (by kernel_rfl) (by kernel_rfl) (fun _ _ _ h => h) (Or.inl ⟨by rfl, ?_⟩) (by assumption) ?_
  rotate_left
  · intro w hSw; ((try dsimp only at hSw); go_simp; (try with_reducible rfl))
  simp only [Act.put, List.setIfInBounds_toArray, List.set_cons_zero, List.set_cons_succ]
  refine wpAnyN_take (i := 2) (v := ?_) rfl (by kernel_rfl) (by kernel_rfl) (by kernel_rfl) (by kernel_rfl) (fun _ _ _ h => h) (Or.inl ⟨by rfl, ?_⟩) (by assumption) ?_
  rotate_left
  · intro w hSw; ((try dsimp only at hSw); go_simp; (try with_reducible rfl))
  simp only [Act.put, List.setIfInBounds_toArray, List.set_cons_zero, List.set_cons_succ]
  refine wpAnyN_take (i := 3) (v := ?_) rfl (by kernel_rfl) (by kernel_rfl) (by kernel_rfl) (by kernel_rfl) (fun _ _ _ h => h) (Or.inl ⟨by rfl, ?_⟩) (by assumption) ?_
  rotate_left
  · intro w hSw; ((try dsimp only at hSw); go_simp; (try with_reducible rfl))
  simp only [Act.put, List.setIfInBounds_toArray, List.set_cons_zero, List.set_cons_succ]
  refine wpAnyN_take (i := 4) (v := ?_) rfl (by kernel_rfl) (by kernel_rfl) (by kernel_rfl) (by kernel_rfl) (fun _ _ _ h => h) (Or.inl ⟨by rfl, ?_⟩) (by assumption) ?_
  rotate_left
  · intro w hSw; ((try dsimp only at hSw); go_simp; (try with_reducible rfl))
  simp only [Act.put, List.setIfInBounds_toArray, List.set_cons_zero, List.set_cons_succ]
  refine wpAnyN_take (i := 5) (v := ?_) rfl (by kernel_rfl) (by kernel_rfl) (by kernel_rfl) (by kernel_rfl) (fun _ _ _ h => h) (Or.inl ⟨by rfl, ?_⟩) (by assumption) ?_
  rotate_left
  · intro w hSw; ((try dsimp only at hSw); go_simp; (try with_reducible rfl))
  simp only [Act.put, List.setIfInBounds_toArray, List.set_cons_zero, List.set_cons_succ]
  refine wpAnyN_take (i := 6) (v := ?_) rfl (by kernel_rfl) (by kernel_rfl) (by kernel_rfl) (by kernel_rfl) (fun _ _ _ h => h) (Or.inl ⟨by rfl, ?_⟩) (by assumption) ?_
  rotate_left
  · intro w hSw; ((try dsimp only at hSw); go_simp; (try with_reducible rfl))
  simp only [Act.put, List.setIfInBounds_toArray, List.set_cons_zero, List.set_cons_succ]
  refine wpAnyN_take (i := 8) (v := ?_) rfl (by kernel_rfl) (by kernel_rfl) (by kernel_rfl) (by kernel_rfl) (fun _ _ _ h => h) (Or.inl ⟨by rfl, ?_⟩) (by assumption) ?_
  rotate_left
  · intro w hSw; ((try dsimp only at hSw); go_simp; (try with_reducible rfl))
  simp only [Act.put, List.setIfInBounds_toArray, List.set_cons_zero, List.set_cons_succ]
  refine wpAnyN_take (i := 9) (v := ?_) rfl (by kernel_rfl) (by kernel_rfl) (by kernel_rfl) (by kernel_rfl) (fun _ _ _ h => h) (Or.inl ⟨by rfl, ?_⟩) (by assumption) ?_
  rotate_left
  · intro w hSw; ((try dsimp only at hSw); go_simp; (try with_reducible rfl))
  simp only [Act.put, List.setIfInBounds_toArray, List.set_cons_zero, List.set_cons_succ]
  refine wpAnyN_take (i := 10) (v := ?_) rfl (by kernel_rfl) (by kernel_rfl) (by kernel_rfl) (by kernel_rfl) (fun _ _ _ h => h) (Or.inl ⟨by rfl, ?_⟩) (by assumption) ?_
  rotate_left
  · intro w hSw; ((try dsimp only at hSw); go_simp; (try with_reducible rfl))
  simp only [Act.put, List.setIfInBounds_toArray, List.set_cons_zero, List.set_cons_succ]
  refine wpAnyN_take (i := 11) (v := ?_) rfl (by kernel_rfl) (by kernel_rfl) (by kernel_rfl) (by kernel_rfl) (fun _ _ _ h => h) (Or.inl ⟨by rfl, ?_⟩) (by assumption) ?_
  rotate_left
  · intro w hSw; ((try dsimp only at hSw); go_simp; (try with_reducible rfl))
  simp only [Act.put, List.setIfInBounds_toArray, List.set_cons_zero, List.set_cons_succ]
  refine wpAnyN_take (i := 12) (v := ?_) rfl (by kernel_rfl) (by kernel_rfl) (by kernel_rfl) (by kernel_rfl) (fun _ _ _ h => h) (Or.inl ⟨by rfl, ?_⟩) (by assumption) ?_
  rotate_left
  · intro w hSw; ((try dsimp only at hSw); go_simp; (try with_reducible rfl))
  simp only [Act.put, List.setIfInBounds_toArray, List.set_cons_zero, List.set_cons_succ]
  refine wpAnyN_take (i := 13) (v := ?_) rfl (by kernel_rfl) (by kernel_rfl) (by kernel_rfl) (by kernel_rfl) (fun _ _ _ h => h) (Or.inl ⟨by rfl, ?_⟩) (by assumption) ?_
  rotate_left
  · intro w hSw; ((try dsimp only at hSw); go_simp; (try with_reducible rfl))
  simp only [Act.put, List.setIfInBounds_toArray, List.set_cons_zero, List.set_cons_succ]
  refine wpAnyN_take (i := 14) (v := ?_) rfl (by kernel_rfl) (by kernel_rfl) (by kernel_rfl) (by kernel_rfl) (fun _ _ _ h => h) (Or.inl ⟨by rfl, ?_⟩) (by assumption) ?_
  rotate_left
  · intro w hSw; ((try dsimp only at hSw); go_simp; (try with_reducible rfl))
  simp only [Act.put, List.setIfInBounds_toArray, List.set_cons_zero, List.set_cons_succ]
  refine wpAnyN_take (i := 15) (v := .int .i64 (rm : Int)) rfl (by kernel_rfl) (by kernel_rfl) (by kernel_rfl) (by kernel_rfl) (fun _ _ _ h => h) (Or.inl ⟨by rfl, fun w hSw => by (try dsimp only at hSw); go_simp; rw [hwrH.out]⟩) (by assumption) ?_
  simp only [Act.put, List.setIfInBounds_toArray, List.set_cons_zero, List.set_cons_succ]
  refine wpAnyN_one (i := 7) rfl (by kernel_rfl) ?_
  go_wp2_with fail
  refine (hrmH.out _ (hld.step (Step.refl Nobody w3 o3).drew (fun h => h) (fun h => h) (fun h => h))).mono ?_; rintro e1 w4 ⟨v4, o4, rfl, hs4, rfl⟩
  have c4 : w4.cell? ⟨pr, 0, none⟩ = some (.slice (some ⟨g0, 0, none⟩) N cap0) := by
    rw [World.cell?_of_block (w := w3) (a := ⟨pr, 0, none⟩) (hs4.block pr hpr.out.1 (fun h => h))]; exact hpr.out.2
  go_wp2_with fail
  refine ⟨fun _ => c4, ?_⟩
  refine wpAnyN_take (i := 16) (v := .bool false) rfl (by kernel_rfl) (by kernel_rfl) (by kernel_rfl) (by kernel_rfl) (fun _ _ _ h => h) (Or.inl ⟨by rfl, fun w hSw => by (try dsimp only at hSw); go_simp⟩) (by assumption) ?_
  simp only [Act.put, List.setIfInBounds_toArray, List.set_cons_zero, List.set_cons_succ]
  refine wpAnyN_take (i := 17) (v := .bool false) rfl (by kernel_rfl) (by kernel_rfl) (by kernel_rfl) (by kernel_rfl) (fun _ _ _ h => h) (Or.inl ⟨by rfl, fun w hSw => by (try dsimp only at hSw); go_simp⟩) (by assumption) ?_
  simp only [Act.put, List.setIfInBounds_toArray, List.set_cons_zero, List.set_cons_succ]
  refine wpAnyN_done (by kernel_rfl) ?_ _
  have hst := (hst.drew).trans hs4
  have hsl := (hsl.step (Step.refl Nobody w3 o3).drew (fun h => h)).step hs4 (fun h => h)
  have hbs := (hbs.step (Step.refl Nobody w3 o3).drew (fun h => h)).step hs4 (fun h => h)
  have hld := (hld.step (Step.refl Nobody w3 o3).drew (fun h => h) (fun h => h) (fun h => h)).step hs4 (fun h => h) (fun h => h) (fun h => h)
  have hrows2 := hidden (show ∀ k x l, vs[k]? = some x → rs[k]? = some l → Bytes w4 o4 x l from fun k x l hx hl => ((hrowsH.out.2 k x l hx hl).step (Step.refl Nobody w3 o3).drew (fun h => h)).step hs4 (fun h => h))
  have hvl := hidden (show vs.length = K from hrowsH.out.1.trans hrsH.out.1)
  clear c3 c4 hs4 hHeld hrmH hwrH hrowsH hpr
  go_wp2_with fail
  go_loopw [13] (fun i wr => ∃ k : Nat, k ≤ K ∧ i = .int .i64 k ∧ Step Nobody w4 o4 wr o4) (fun i _ => K - (intOf i).toNat)
  case atStart => exact ⟨0, by omega, rfl, Step.refl _ _ _⟩
  case round =>
    obtain ⟨k, hk, rfl, hsr⟩ := hrel
    by_cases hlt : k < K
    · have hsd := hsr.drew
      obtain ⟨x, hx⟩ : ∃ x, vs[k]? = some x := ⟨_, List.getElem?_eq_getElem (by rw [hvl.out]; exact hlt)⟩
      obtain ⟨l, hl⟩ : ∃ l, rs[k]? = some l := ⟨_, List.getElem?_eq_getElem (by rw [hrsH.out.1]; exact hlt)⟩
      obtain ⟨b1, f1, hab, hc1, -, -⟩ := (hbs.step hsd (fun h => h)).cell k hx
      subst hab
      obtain ⟨b2, f2, hab, hc2⟩ := tvs_cell (hsl.step hsd (fun h => h)) hl
      subst hab
      have hby := (hrows2.out k x l hx hl).step hsd (fun h => h)
      obtain ⟨xa, xc, rfl⟩ := slc_form hby
      have hcv := conv_string hby
      have hS := And.intro hc1 (And.intro hc2 hcv)
      have hSH := hidden hS
      clear hS hc1 hc2 hcv hby hx hl
      go_wp2_with fail
      refine wp_region_need (fun w' => w'.cell? ⟨b1, f1 + k, none⟩ = some (.slice xa l.length xc) ∧ w'.cell? ⟨b2, f2 + k, none⟩ = some (str l) ∧ (convert 28 9 (.slice xa l.length xc)).run Try.prog w' = .ok (.string ⟨l.toArray⟩) w') (fun _ => true) (by kernel_rfl) hSH.out (fun hHeld => ?_)
      refine wpAnyN_take (i := 0) (v := ?_) rfl (by kernel_rfl) (by kernel_rfl) (by kernel_rfl) (by kernel_rfl) (fun _ _ _ h => h) (Or.inl ⟨by rfl, ?_⟩) (by assumption) ?_
      rotate_left
      · intro w hSw; ((try dsimp only at hSw); go_simp; (try with_reducible rfl))
      simp only [Act.put, List.setIfInBounds_toArray, List.set_cons_zero, List.set_cons_succ]
      refine wpAnyN_take (i := 1) (v := ?_) rfl (by kernel_rfl) (by kernel_rfl) (by kernel_rfl) (by kernel_rfl) (fun _ _ _ h => h) (Or.inl ⟨by rfl, ?_⟩) (by assumption) ?_
      rotate_left
      · intro w hSw; ((try dsimp only at hSw); go_simp; (try with_reducible rfl))
      simp only [Act.put, List.setIfInBounds_toArray, List.set_cons_zero, List.set_cons_succ]
      refine wpAnyN_take (i := 2) (v := ?_) rfl (by kernel_rfl) (by kernel_rfl) (by kernel_rfl) (by kernel_rfl) (fun _ _ _ h => h) (Or.inl ⟨by rfl, ?_⟩) (by assumption) ?_
      rotate_left
      · intro w hSw; ((try dsimp only at hSw); go_simp; (try with_reducible rfl))
      simp only [Act.put, List.setIfInBounds_toArray, List.set_cons_zero, List.set_cons_succ]
      refine wpAnyN_take (i := 3) (v := ?_) rfl (by kernel_rfl) (by kernel_rfl) (by kernel_rfl) (by kernel_rfl) (fun _ _ _ h => h) (Or.inl ⟨by rfl, ?_⟩) (by assumption) ?_
      rotate_left
      · intro w hSw; ((try dsimp only at hSw); go_simp; (try with_reducible rfl))
      simp only [Act.put, List.setIfInBounds_toArray, List.set_cons_zero, List.set_cons_succ]
      refine wpAnyN_take (i := 4) (v := .string ⟨l.toArray⟩) rfl (by kernel_rfl) (by kernel_rfl) (by kernel_rfl) (by kernel_rfl) (fun _ _ _ h => h) (Or.inl ⟨by rfl, fun w hSw => ?_⟩) (by assumption) ?_
      · exact exec_convert 28 9 (.tmp 55) rfl hSw.2.2
      simp only [Act.put, List.setIfInBounds_toArray, List.set_cons_zero, List.set_cons_succ]
      refine wpAnyN_take (i := 5) (v := ?_) rfl (by kernel_rfl) (by kernel_rfl) (by kernel_rfl) (by kernel_rfl) (fun _ _ _ h => h) (Or.inl ⟨by rfl, ?_⟩) (by assumption) ?_
      rotate_left
      · intro w hSw; ((try dsimp only at hSw); go_simp; (try with_reducible rfl))
      simp only [Act.put, List.setIfInBounds_toArray, List.set_cons_zero, List.set_cons_succ]
      refine wpAnyN_take (i := 6) (v := ?_) rfl (by kernel_rfl) (by kernel_rfl) (by kernel_rfl) (by kernel_rfl) (fun _ _ _ h => h) (Or.inl ⟨by rfl, ?_⟩) (by assumption) ?_
      rotate_left
      · intro w hSw; ((try dsimp only at hSw); go_simp; (try with_reducible rfl))
      simp only [Act.put, List.setIfInBounds_toArray, List.set_cons_zero, List.set_cons_succ]
      refine wpAnyN_take (i := 7) (v := ?_) rfl (by kernel_rfl) (by kernel_rfl) (by kernel_rfl) (by kernel_rfl) (fun _ _ _ h => h) (Or.inl ⟨by rfl, ?_⟩) (by assumption) ?_
      rotate_left
      · intro w hSw; ((try dsimp only at hSw); go_simp; (try with_reducible rfl))
      simp only [Act.put, List.setIfInBounds_toArray, List.set_cons_zero, List.set_cons_succ]
      refine wpAnyN_take (i := 8) (v := .string ⟨l.toArray⟩) rfl (by kernel_rfl) (by kernel_rfl) (by kernel_rfl) (by kernel_rfl) (fun _ _ _ h => h) (Or.inl ⟨by rfl, fun w hSw => by (try dsimp only at hSw); go_simp; rfl⟩) (by assumption) ?_
      simp only [Act.put, List.setIfInBounds_toArray, List.set_cons_zero, List.set_cons_succ]
      refine wpAnyN_take (i := 9) (v := .bool false) rfl (by kernel_rfl) (by kernel_rfl) (by kernel_rfl) (by kernel_rfl) (fun _ _ _ h => h) (Or.inl ⟨by rfl, fun w hSw => by (try dsimp only at hSw); go_simp⟩) (by assumption) ?_
      simp only [Act.put, List.setIfInBounds_toArray, List.set_cons_zero, List.set_cons_succ]
      refine wpAnyN_done (by kernel_rfl) ?_ _
      clear hHeld hSH
      go_wp2_with fail
      go_roundw
      case rel => exact ⟨k + 1, by omega, by go_num, hsd⟩
      case measure => simp [intOf]; omega
    · obtain rfl : k = K := by omega
      have hstL := hst.trans hsr
      have hld2 := hld.step hsr (fun h => h) (fun h => h) (fun h => h)
      clear hst hld hbs hsl hrows2 hvl hsr hlt hk
      have hf0 : (0 : Int) ≤ (first : Int) ∧ (first : Int) ≤ 4000 := by omega
      go_wp2_with fail
      go_loopw [14] (fun i wr => ∃ (k : Nat) (oj : Own), k ≤ N ∧ i = .int .i64 k ∧ Step Nobody w o wr oj ∧ LD wr oj L D p pd s) (fun i _ => N - (intOf i).toNat)
      case atStart => exact ⟨0, o4, by omega, rfl, hstL, hld2⟩
      case round =>
        clear hstL hld2
        obtain ⟨k, oj, hk, rfl, hst, hld⟩ := hrel
        obtain ⟨cN, cG⟩ := hgc.out wr oj hst
        by_cases hlt : k < N
        · have hrd := hrdH.out wr oj hld k hlt
          have hln := hlen.out k hlt
          have hgcH := hidden (hgc.out)
          rw [Int.natCast_add] at hrd
          obtain ⟨q, hq⟩ : ∃ q, R.getD k [] = q := ⟨_, rfl⟩
          rw [hq] at hrd hln
          have hqH := hidden hq
          have hrdK := hidden hrd
          clear cG hrd hq
          go_wp2_with fail
          refine hrdK.out.mono ?_; rintro e1 w5 ⟨v5, o5, rfl, hs5, vb, rfl, hnp⟩
          have hst5 := hst.trans hs5
          have hld5 := hld.step hs5 (fun h => h) (fun h => h) (fun h => h)
          have hby := hnp.bytes
          obtain ⟨xa, xc, rfl⟩ := slc_form hby
          have hcv := conv_string (hby.step (Step.refl Nobody w5 o5).drew (fun h => h))
          rw [hln] at hcv
          obtain ⟨cN5, cG5⟩ := hgc.out w5.drew o5 hst5.drew
          have cG5 := cG5 k hlt
          rw [hqH.out] at cG5
          have hS := And.intro cN5 (And.intro cG5 hcv)
          have hSH := hidden hS
          clear hS cN5 cG5 hcv hby hnp hs5 hst hld cN hrdK
          go_wp2_with fail
          refine wp_region_need (fun w' => w'.cell? ⟨pr, 0, none⟩ = some (.slice (some ⟨g0, 0, none⟩) N cap0) ∧ w'.cell? ⟨g0, k, none⟩ = some (str q) ∧ (convert 28 9 (.slice xa 512 xc)).run Try.prog w' = .ok (.string ⟨q.toArray⟩) w') (fun _ => true) (by kernel_rfl) hSH.out (fun hHeld => ?_)
          refine wpAnyN_take (i := 0) (v := ?_) rfl (by kernel_rfl) (by kernel_rfl) (by kernel_rfl) (by kernel_rfl) (fun _ _ _ h => h) (Or.inl ⟨by rfl, ?_⟩) (by assumption) ?_
          rotate_left
          · intro w hSw; ((try dsimp only at hSw); go_simp; (try with_reducible rfl))
          simp only [Act.put, List.setIfInBounds_toArray, List.set_cons_zero, List.set_cons_succ]
          refine wpAnyN_take (i := 1) (v := ?_) rfl (by kernel_rfl) (by kernel_rfl) (by kernel_rfl) (by kernel_rfl) (fun _ _ _ h => h) (Or.inl ⟨by rfl, ?_⟩) (by assumption) ?_
          rotate_left
          · intro w hSw; ((try dsimp only at hSw); go_simp; (try with_reducible rfl))
          simp only [Act.put, List.setIfInBounds_toArray, List.set_cons_zero, List.set_cons_succ]
          refine wpAnyN_take (i := 2) (v := ?_) rfl (by kernel_rfl) (by kernel_rfl) (by kernel_rfl) (by kernel_rfl) (fun _ _ _ h => h) (Or.inl ⟨by rfl, ?_⟩) (by assumption) ?_
          rotate_left
          · intro w hSw; ((try dsimp only at hSw); go_simp; (try with_reducible rfl))
          simp only [Act.put, List.setIfInBounds_toArray, List.set_cons_zero, List.set_cons_succ]
          refine wpAnyN_take (i := 3) (v := ?_) rfl (by kernel_rfl) (by kernel_rfl) (by kernel_rfl) (by kernel_rfl) (fun _ _ _ h => h) (Or.inl ⟨by rfl, ?_⟩) (by assumption) ?_
          rotate_left
          · intro w hSw; ((try dsimp only at hSw); go_simp; (try with_reducible rfl))
          simp only [Act.put, List.setIfInBounds_toArray, List.set_cons_zero, List.set_cons_succ]
          refine wpAnyN_take (i := 4) (v := .string ⟨q.toArray⟩) rfl (by kernel_rfl) (by kernel_rfl) (by kernel_rfl) (by kernel_rfl) (fun _ _ _ h => h) (Or.inl ⟨by rfl, fun w hSw => ?_⟩) (by assumption) ?_
          · exact exec_convert 28 9 (.tmp 82) rfl hSw.2.2
          simp only [Act.put, List.setIfInBounds_toArray, List.set_cons_zero, List.set_cons_succ]
          refine wpAnyN_take (i := 5) (v := ?_) rfl (by kernel_rfl) (by kernel_rfl) (by kernel_rfl) (by kernel_rfl) (fun _ _ _ h => h) (Or.inl ⟨by rfl, ?_⟩) (by assumption) ?_
          rotate_left
          · intro w hSw; ((try dsimp only at hSw); go_simp; (try with_reducible rfl))
          simp only [Act.put, List.setIfInBounds_toArray, List.set_cons_zero, List.set_cons_succ]
          refine wpAnyN_take (i := 6) (v := ?_) rfl (by kernel_rfl) (by kernel_rfl) (by kernel_rfl) (by kernel_rfl) (fun _ _ _ h => h) (Or.inl ⟨by rfl, ?_⟩) (by assumption) ?_
          rotate_left
          · intro w hSw; ((try dsimp only at hSw); go_simp; (try with_reducible rfl))
          simp only [Act.put, List.setIfInBounds_toArray, List.set_cons_zero, List.set_cons_succ]
          refine wpAnyN_take (i := 7) (v := ?_) rfl (by kernel_rfl) (by kernel_rfl) (by kernel_rfl) (by kernel_rfl) (fun _ _ _ h => h) (Or.inl ⟨by rfl, ?_⟩) (by assumption) ?_
          rotate_left
          · intro w hSw; ((try dsimp only at hSw); go_simp; (try with_reducible rfl))
          simp only [Act.put, List.setIfInBounds_toArray, List.set_cons_zero, List.set_cons_succ]
          refine wpAnyN_take (i := 8) (v := ?_) rfl (by kernel_rfl) (by kernel_rfl) (by kernel_rfl) (by kernel_rfl) (fun _ _ _ h => h) (Or.inl ⟨by rfl, ?_⟩) (by assumption) ?_
          rotate_left
          · intro w hSw; ((try dsimp only at hSw); go_simp; (try with_reducible rfl))
          simp only [Act.put, List.setIfInBounds_toArray, List.set_cons_zero, List.set_cons_succ]
          refine wpAnyN_take (i := 9) (v := ?_) rfl (by kernel_rfl) (by kernel_rfl) (by kernel_rfl) (by kernel_rfl) (fun _ _ _ h => h) (Or.inl ⟨by rfl, ?_⟩) (by assumption) ?_
          rotate_left
          · intro w hSw; ((try dsimp only at hSw); go_simp; (try with_reducible rfl))
          simp only [Act.put, List.setIfInBounds_toArray, List.set_cons_zero, List.set_cons_succ]
          refine wpAnyN_take (i := 10) (v := ?_) rfl (by kernel_rfl) (by kernel_rfl) (by kernel_rfl) (by kernel_rfl) (fun _ _ _ h => h) (Or.inl ⟨by rfl, ?_⟩) (by assumption) ?_
          rotate_left
          · intro w hSw; ((try dsimp only at hSw); go_simp; (try with_reducible rfl))
          simp only [Act.put, List.setIfInBounds_toArray, List.set_cons_zero, List.set_cons_succ]
          refine wpAnyN_take (i := 11) (v := .string ⟨q.toArray⟩) rfl (by kernel_rfl) (by kernel_rfl) (by kernel_rfl) (by kernel_rfl) (fun _ _ _ h => h) (Or.inl ⟨by rfl, fun w hSw => by (try dsimp only at hSw); go_simp; rfl⟩) (by assumption) ?_
          simp only [Act.put, List.setIfInBounds_toArray, List.set_cons_zero, List.set_cons_succ]
          refine wpAnyN_take (i := 12) (v := .bool false) rfl (by kernel_rfl) (by kernel_rfl) (by kernel_rfl) (by kernel_rfl) (fun _ _ _ h => h) (Or.inl ⟨by rfl, fun w hSw => by (try dsimp only at hSw); go_simp⟩) (by assumption) ?_
          simp only [Act.put, List.setIfInBounds_toArray, List.set_cons_zero, List.set_cons_succ]
          refine wpAnyN_take (i := 13) (v := ?_) rfl (by kernel_rfl) (by kernel_rfl) (by kernel_rfl) (by kernel_rfl) (fun _ _ _ h => h) (Or.inl ⟨by rfl, ?_⟩) (by assumption) ?_
          rotate_left
          · intro w hSw; ((try dsimp only at hSw); go_simp; (try with_reducible rfl))
          simp only [Act.put, List.setIfInBounds_toArray, List.set_cons_zero, List.set_cons_succ]
          refine wpAnyN_done (by kernel_rfl) ?_ _
          clear hHeld hSH
          go_wp2_with fail
          go_roundw
          case rel => exact ⟨k + 1, o5, by omega, by go_num, hst5.drew, hld5.step (Step.refl Nobody w5 o5).drew (fun h => h) (fun h => h) (fun h => h)⟩
          case measure => simp [intOf]; omega
        · obtain rfl : k = N := by omega
          clear cG
          go_wp2_with fail
          go_ret
          exact ⟨_, oj, rfl, hst, rfl⟩
end Go.Proofs.YtfgggkheadfiaaaR
