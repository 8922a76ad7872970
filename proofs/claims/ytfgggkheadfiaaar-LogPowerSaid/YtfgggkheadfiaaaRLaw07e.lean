/- The acts of layer 7's laws: how they are read, what they do to a disk, 'Many'. -/
import Derived.Test.YtfgggkheadfiaaaRLaw07c
import Derived.Test.YtfgggkheadfiaaaRRead
namespace Go.Proofs.YtfgggkheadfiaaaR
open Go Go.RowKit
attribute [local go_sem ↓] Go.wp_at_zero Go.wp_at_succ

structure Act7 where
  do_ : Int
  at' : Int
  b : Int
  st : Int
  fv : Value
  fates : List Int
namespace Act7
def cells (a : Act7) : List Value := [.int .u8 a.do_, .int .i64 a.at', .int .u8 a.b, .int .u8 a.st, a.fv]
def ok (a : Act7) : Prop := (0 ≤ a.do_ ∧ a.do_ ≤ 255) ∧ (-9223372036854775808 ≤ a.at' ∧ a.at' ≤ 9223372036854775807) ∧ (0 ≤ a.b ∧ a.b ≤ 255) ∧ (0 ≤ a.st ∧ a.st ≤ 255) ∧ ∀ x ∈ a.fates, -9223372036854775808 ≤ x ∧ x ≤ 9223372036854775807
def sheet (a : Act7) : List UInt8 := sheetL (UInt8.ofNat a.b.toNat) (UInt8.ofNat a.st.toNat) 512
end Act7

/-- v reads as the acts l. -/
def Acts7 (w : World) (o : Own) (v : Value) (l : List Act7) : Prop :=
  ((∃ a c, v = .slice a 0 c) ∧ l = []) ∨ ∃ b off cap, v = .slice (some ⟨b, off, none⟩) l.length cap ∧ l.length ≤ cap ∧ cap ≤ maxLen ∧ (o b).1 = 0 ∧ b < w.heap.size ∧
    ∀ i (h : i < l.length), w.rangeAt b (off + i * 5) l[i].cells ∧ Ints w o l[i].fv l[i].fates ∧ l[i].ok
theorem Acts7.step {T : Nat → Prop} {w w' : World} {o o' : Own} {v : Value} {l : List Act7} (h : Acts7 w o v l) (s : Step T w o w' o') (hT : ¬ T 0) : Acts7 w' o' v l := by
  rcases h with h | ⟨b, off, cap, hv, hl, hm, ho, hb, hr⟩
  · exact .inl h
  · exact .inr ⟨b, off, cap, hv, hl, hm, by rw [s.own b hb]; exact ho, Nat.lt_of_lt_of_le hb s.size, fun i hi => ⟨range_same (hr i hi).1 (s.block b hb (by rw [ho]; exact hT)), Slc.step (hr i hi).2.1 s hT, (hr i hi).2.2⟩⟩
theorem Acts7.form {w : World} {o : Own} {v : Value} {l : List Act7} (h : Acts7 w o v l) : ∃ a c, v = .slice a l.length c := by
  rcases h with ⟨⟨a, c, rfl⟩, rfl⟩ | ⟨b, off, cap, rfl, _⟩ <;> exact ⟨_, _, rfl⟩
theorem Acts7.at {w : World} {o : Own} {a : Option Addr} {n c : Nat} {l : List Act7} (h : Acts7 w o (.slice a n c) l) (i : Nat) (hi : i < l.length) :
    ∃ b off, a = some ⟨b, off, none⟩ ∧ n = l.length ∧ (o b).1 = 0 ∧ b < w.heap.size ∧ w.rangeAt b (off + i * 5) l[i].cells ∧ Ints w o l[i].fv l[i].fates ∧ l[i].ok := by
  rcases h with ⟨_, rfl⟩ | ⟨b, off, cap, hv, hl, hm, ho, hb, hr⟩
  · simp at hi
  · simp only [Value.slice.injEq] at hv
    obtain ⟨rfl, rfl, rfl⟩ := hv
    exact ⟨b, off, rfl, rfl, ho, hb, hr i hi⟩

section
variable {H : Type} {enc : TypeId × Value → H} {W : World}
theorem read_ints {fuel : Nat} {v : Value} {x : DataW H × List MemPlace} (h : DataW.trod enc Try.prog W 0 (fun _ => true) true fuel 34 [v] = some x) :
    ∃ l : List Int, Ints W (fun _ => (0, 0)) v l ∧ ∀ a ∈ l, -9223372036854775808 ≤ a ∧ a ≤ 9223372036854775807 := by
  obtain ⟨l, h1, h2⟩ := read_nums Try.underlying34 Try.underlying3 (by kernel_rfl) h
  exact ⟨l, h1, fun a ha => Go.bounds_i64 (h2 a ha)⟩

set_option maxRecDepth 100000 in
theorem read_acts7 {fuel : Nat} {v : Value} {x : DataW H × List MemPlace} (h : DataW.trod enc Try.prog W 0 (fun _ => true) true fuel 39 [v] = some x) :
    ∃ l : List Act7, Acts7 W (fun _ => (0, 0)) v l := by
  have c43 : Try.prog.cellsOf 43 = 5 := by kernel_rfl
  have c5 : Try.prog.cellsOf 5 = 1 := by kernel_rfl
  have c3 : Try.prog.cellsOf 3 = 1 := by kernel_rfl
  have c34 : Try.prog.cellsOf 34 = 1 := by kernel_rfl
  rcases read_slice Try.underlying39 (by omega) h with ⟨a, c, rfl⟩ | ⟨b, off, len, cap, rfl, h0, hlc, hcm, hb, hel⟩
  · exact ⟨[], .inl ⟨⟨a, c, rfl⟩, rfl⟩⟩
  · obtain ⟨l, hl, hr⟩ := list_choose (fun i (m : Act7) => W.rangeAt b (off + i * 5) m.cells ∧ Ints W (fun _ => (0, 0)) m.fv m.fates ∧ m.ok) len (fun i hi => by
      obtain ⟨cs', k1, k2, n, y, k3⟩ := hel i (by omega)
      rw [c43] at k1 k2
      obtain ⟨xs, n', _, _, _, hxs, hf⟩ := DataW.trod_struct Try.underlying43 k3
      match cs', k1 with
      | [v0, v1, v2, v3, v4], _ =>
        have f0 : DataW.trod enc Try.prog W 0 (fun _ => true) true n' 5 (([v0, v1, v2, v3, v4].drop 0).take (Try.prog.cellsOf 5)) = xs[0]? := hf 0 _ rfl
        have f1 : DataW.trod enc Try.prog W 0 (fun _ => true) true n' 3 (([v0, v1, v2, v3, v4].drop 1).take (Try.prog.cellsOf 3)) = xs[1]? := hf 1 _ rfl
        have f2 : DataW.trod enc Try.prog W 0 (fun _ => true) true n' 5 (([v0, v1, v2, v3, v4].drop 2).take (Try.prog.cellsOf 5)) = xs[2]? := hf 2 _ rfl
        have f3 : DataW.trod enc Try.prog W 0 (fun _ => true) true n' 5 (([v0, v1, v2, v3, v4].drop 3).take (Try.prog.cellsOf 5)) = xs[3]? := hf 3 _ rfl
        have f4 : DataW.trod enc Try.prog W 0 (fun _ => true) true n' 34 (([v0, v1, v2, v3, v4].drop 4).take (Try.prog.cellsOf 34)) = xs[4]? := hf 4 _ rfl
        have hsz : xs.length = 5 := hxs
        simp only [c5, c3, c34, List.drop_zero, List.take_succ_cons, List.take_zero, List.drop_succ_cons] at f0 f1 f2 f3 f4
        rw [List.getElem?_eq_getElem (by omega)] at f0 f1 f2 f3 f4
        obtain ⟨a0, e0, _, w0⟩ := DataW.trod_int Try.underlying5 f0
        obtain ⟨a1, e1, _, w1⟩ := DataW.trod_int Try.underlying3 f1
        obtain ⟨a2, e2, _, w2⟩ := DataW.trod_int Try.underlying5 f2
        obtain ⟨a3, e3, _, w3⟩ := DataW.trod_int Try.underlying5 f3
        obtain ⟨fs, e4, w4⟩ := read_ints f4
        simp only [List.cons.injEq, and_true] at e0 e1 e2 e3
        subst e0 e1 e2 e3
        exact ⟨⟨a0, a1, a2, a3, v4, fs⟩, k2, e4, Go.bounds_u8 w0, Go.bounds_i64 w1, Go.bounds_u8 w2, Go.bounds_u8 w3, w4⟩)
    exact ⟨l, .inr ⟨b, off, cap, by rw [hl], by omega, hcm, rfl, hb, hr⟩⟩
end

theorem ret_int {k : IntKind} {a b : Int} (h : a = b) : Ending.returned (.int k a) = .returned (.int k b) := by rw [h]
/-- Above 0 where acts are more than a law looks at. -/
def many7 (l : List Act7) : Int := if (l.take 81).any (fun a => decide (60 < a.fates.length)) then 1 else max 0 ((l.length : Int) - 80)

set_option maxRecDepth 100000 in
set_option maxHeartbeats 1600000 in
theorem many7_any {w : World} {o : Own} {v : Value} {l : List Act7} (h : Acts7 w o v l) : Calls Try.prog 30 #[v] w fun e w' => e = .returned (.int .i64 (many7 l)) ∧ w = w' := by
  obtain ⟨a, c, rfl⟩ := h.form
  have hlm : (l.length : Int) ≤ 9223372036854775807 := by
    rcases h with ⟨_, rfl⟩ | ⟨b, off, cap, hv, hl, hm, _⟩
    · simp
    · unfold maxLen at hm; omega
  go_enter Try.func30, Try.ntmps30
  go_wp2_with fail
  go_loop [3] (fun i => ∃ k : Nat, k ≤ l.length ∧ k ≤ 81 ∧ i = .int .i64 k ∧ (l.take k).any (fun a => decide (60 < a.fates.length)) = false) (fun i => 81 - (intOf i).toNat)
  case atStart => exact ⟨0, by omega, by omega, rfl, rfl⟩
  case round =>
    obtain ⟨k, hk, hk81, rfl, hany⟩ := hrel
    by_cases hlt : k < l.length
    · by_cases h81 : k < 81
      · obtain ⟨b, off, rfl, _, ho, hb, hr, hi, hok⟩ := h.at k hlt
        have c4 : w.cell? ⟨b, off + k * 5 + 4, none⟩ = some l[k].fv := hr 4 _ rfl
        obtain ⟨fa, fc, hfv⟩ := slc_form hi
        have hsn : (l.take (k + 1)).any (fun a => decide (60 < a.fates.length)) = decide (60 < l[k].fates.length) := by
          rw [List.take_succ_eq_append_getElem hlt, List.any_append, hany]; simp
        rw [hfv] at c4
        have hanyH := hidden hany
        have hsnH := hidden hsn
        clear hany hsn hr hi hok hfv
        by_cases hbig : 60 < l[k].fates.length
        · have hE : many7 l = 1 := by
            unfold many7
            rw [if_pos]
            refine List.any_eq_true.2 ⟨l[k], ?_, by simpa using hbig⟩
            exact List.mem_take_iff_getElem.2 ⟨k, by omega, rfl⟩
          have hbigI : (60 : Int) < (l[k].fates.length : Int) := by omega
          have hEH := hidden hE
          clear hE
          go_wp2
          go_ret
          exact ⟨by rw [hEH.out]; rfl, rfl⟩
        · have hbigI : ¬ (60 : Int) < (l[k].fates.length : Int) := by omega
          go_wp2
          go_round
          case rel => exact ⟨k + 1, by omega, by omega, by go_num, by rw [hsnH.out]; simpa using hbig⟩
          case measure => simp [intOf]; omega
      · have hk' : k = 81 := by omega
        subst hk'
        have hE : many7 l = max 0 ((l.length : Int) - 80) := by unfold many7; rw [if_neg (by rw [hany]; simp)]
        rw [show max 0 ((l.length : Int) - 80) = (l.length : Int) - 80 from by omega] at hE
        have hEH := hidden hE
        clear hE hany
        go_wp2
        all_goals (go_ret; refine ⟨?_, rfl⟩; rw [hEH.out]; exact ret_int (by omega))
    · have hk' : k = l.length := by omega
      subst hk'
      have hE : many7 l = max 0 ((l.length : Int) - 80) := by
        unfold many7
        rw [if_neg]
        rw [List.take_length] at hany
        rw [List.take_of_length_le hk81, hany]; simp
      by_cases hpos : (0 : Int) ≤ (l.length : Int) - 80
      · rw [show max 0 ((l.length : Int) - 80) = (l.length : Int) - 80 from by omega] at hE
        have hEH := hidden hE
        clear hE hany
        go_wp2
        all_goals (go_ret; refine ⟨?_, rfl⟩; rw [hEH.out]; exact ret_int (by omega))
      · rw [show max 0 ((l.length : Int) - 80) = 0 from by omega] at hE
        have hEH := hidden hE
        clear hE hany
        go_wp2
        all_goals (go_ret; refine ⟨?_, rfl⟩; rw [hEH.out]; exact ret_int (by omega))
end Go.Proofs.YtfgggkheadfiaaaR
