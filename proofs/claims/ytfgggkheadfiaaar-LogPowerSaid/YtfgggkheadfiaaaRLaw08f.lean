/- The tries of layer 8's laws: how they are read; a row of tags above a bound. -/
import Derived.Test.YtfgggkheadfiaaaRLaw08e
import Derived.Test.YtfgggkheadfiaaaRLogP6
namespace Go.Proofs.YtfgggkheadfiaaaR
open Go Go.RowKit
attribute [local go_sem ↓] Go.wp_at_zero Go.wp_at_succ

structure Try8 where
  reset : Bool
  b : UInt8
  n : Int
  fuse : Int
namespace Try8
def cells (a : Try8) : List Value := [.bool a.reset, .int .u8 (a.b.toNat : Int), .int .u16 a.n, .int .u8 a.fuse]
def ok (a : Try8) : Prop := (0 ≤ a.n ∧ a.n ≤ 65535) ∧ 0 ≤ a.fuse ∧ a.fuse ≤ 255
def text (a : Try8) : List UInt8 := fillM a.b (a.n % 3000).toNat
theorem length_text (a : Try8) : a.text.length ≤ 2999 := by unfold text; rw [length_fillM]; omega
end Try8
/-- v reads as the tries l. -/
def Tries8 (w : World) (o : Own) (v : Value) (l : List Try8) : Prop :=
  ((∃ a c, v = .slice a 0 c) ∧ l = []) ∨ ∃ b off cap, v = .slice (some ⟨b, off, none⟩) l.length cap ∧ l.length ≤ cap ∧ cap ≤ maxLen ∧ (o b).1 = 0 ∧ b < w.heap.size ∧
    ∀ i (h : i < l.length), w.rangeAt b (off + i * 4) l[i].cells ∧ l[i].ok
theorem Tries8.step {T : Nat → Prop} {w w' : World} {o o' : Own} {v : Value} {l : List Try8} (h : Tries8 w o v l) (s : Step T w o w' o') (hT : ¬ T 0) : Tries8 w' o' v l := by
  rcases h with h | ⟨b, off, cap, hv, hl, hm, ho, hb, hr⟩
  · exact .inl h
  · exact .inr ⟨b, off, cap, hv, hl, hm, by rw [s.own b hb]; exact ho, Nat.lt_of_lt_of_le hb s.size, fun i hi => ⟨range_same (hr i hi).1 (s.block b hb (by rw [ho]; exact hT)), (hr i hi).2⟩⟩
theorem Tries8.form {w : World} {o : Own} {v : Value} {l : List Try8} (h : Tries8 w o v l) : ∃ a c, v = .slice a l.length c := by
  rcases h with ⟨⟨a, c, rfl⟩, rfl⟩ | ⟨b, off, cap, rfl, _⟩ <;> exact ⟨_, _, rfl⟩
theorem Tries8.at {w : World} {o : Own} {a : Option Addr} {n c : Nat} {l : List Try8} (h : Tries8 w o (.slice a n c) l) (i : Nat) (hi : i < l.length) :
    ∃ b off, a = some ⟨b, off, none⟩ ∧ (o b).1 = 0 ∧ b < w.heap.size ∧ l[i].ok ∧ w.cell? ⟨b, off + i * 4, none⟩ = some (.bool l[i].reset) ∧ w.cell? ⟨b, off + i * 4 + 1, none⟩ = some (.int .u8 (l[i].b.toNat : Int)) ∧
      w.cell? ⟨b, off + i * 4 + 2, none⟩ = some (.int .u16 l[i].n) ∧ w.cell? ⟨b, off + i * 4 + 3, none⟩ = some (.int .u8 l[i].fuse) := by
  rcases h with ⟨_, rfl⟩ | ⟨b, off, cap, hv, hl, hm, ho, hb, hr⟩
  · simp at hi
  · simp only [Value.slice.injEq] at hv
    obtain ⟨rfl, rfl, rfl⟩ := hv
    exact ⟨b, off, rfl, ho, hb, (hr i hi).2, (hr i hi).1 0 _ rfl, (hr i hi).1 1 _ rfl, (hr i hi).1 2 _ rfl, (hr i hi).1 3 _ rfl⟩
section
variable {H : Type} {enc : TypeId × Value → H} {W : World}
set_option maxRecDepth 100000 in
theorem read_tries8 {fuel : Nat} {v : Value} {x : DataW H × List MemPlace} (h : DataW.trod enc Try.prog W 0 (fun _ => true) true fuel 77 [v] = some x) :
    ∃ l : List Try8, Tries8 W (fun _ => (0, 0)) v l := by
  have c80 : Try.prog.cellsOf 80 = 4 := by kernel_rfl
  have c4 : Try.prog.cellsOf 4 = 1 := by kernel_rfl
  have c5 : Try.prog.cellsOf 5 = 1 := by kernel_rfl
  have c63 : Try.prog.cellsOf 63 = 1 := by kernel_rfl
  rcases read_slice Try.underlying77 (by omega) h with ⟨a, c, rfl⟩ | ⟨b, off, len, cap, rfl, h0, hlc, hcm, hb, hel⟩
  · exact ⟨[], .inl ⟨⟨a, c, rfl⟩, rfl⟩⟩
  · obtain ⟨l, hl, hr⟩ := list_choose (fun i (m : Try8) => W.rangeAt b (off + i * 4) m.cells ∧ m.ok) len (fun i hi => by
      obtain ⟨cs', k1, k2, n, y, k3⟩ := hel i (by omega)
      rw [c80] at k1 k2
      obtain ⟨xs, n', _, _, _, hxs, hf⟩ := DataW.trod_struct Try.underlying80 k3
      match cs', k1 with
      | [v0, v1, v2, v3], _ =>
        have f0 : DataW.trod enc Try.prog W 0 (fun _ => true) true n' 4 (([v0, v1, v2, v3].drop 0).take (Try.prog.cellsOf 4)) = xs[0]? := hf 0 _ rfl
        have f1 : DataW.trod enc Try.prog W 0 (fun _ => true) true n' 5 (([v0, v1, v2, v3].drop 1).take (Try.prog.cellsOf 5)) = xs[1]? := hf 1 _ rfl
        have f2 : DataW.trod enc Try.prog W 0 (fun _ => true) true n' 63 (([v0, v1, v2, v3].drop 2).take (Try.prog.cellsOf 63)) = xs[2]? := hf 2 _ rfl
        have f3 : DataW.trod enc Try.prog W 0 (fun _ => true) true n' 5 (([v0, v1, v2, v3].drop 3).take (Try.prog.cellsOf 5)) = xs[3]? := hf 3 _ rfl
        have hsz : xs.length = 4 := hxs
        simp only [c4, c5, c63, List.drop_zero, List.take_succ_cons, List.take_zero, List.drop_succ_cons] at f0 f1 f2 f3
        rw [List.getElem?_eq_getElem (by omega)] at f0 f1 f2 f3
        obtain ⟨a0, e0, _⟩ := DataW.trod_bool Try.underlying4 f0
        obtain ⟨a1, e1, _, w1⟩ := DataW.trod_int Try.underlying5 f1
        obtain ⟨a2, e2, _, w2⟩ := DataW.trod_int Try.underlying63 f2
        obtain ⟨a3, e3, _, w3⟩ := DataW.trod_int Try.underlying5 f3
        simp only [List.cons.injEq, and_true] at e0 e1 e2 e3
        have b1 := Go.bounds_u8 w1
        have hb1 : (((UInt8.ofNat a1.toNat).toNat : Nat) : Int) = a1 := by rw [UInt8.toNat_ofNat']; omega
        subst e0 e1 e2 e3
        exact ⟨⟨a0, UInt8.ofNat a1.toNat, a2, a3⟩, by unfold Try8.cells; simp only [hb1]; exact k2, Go.bounds_u16 w2, Go.bounds_u8 w3⟩)
    exact ⟨l, .inr ⟨b, off, cap, by rw [hl], by omega, hcm, rfl, hb, hr⟩⟩
end

/-- The tags above a bound: a call's own objects. -/
def Above (M : Nat) : Nat → Prop := fun k => M < k
section
variable {M : Nat} {w w1 : World} {o o1 : Own}
theorem Step.above2 {L D : Nat} (h : Step (In L D) w o w1 o1) (hL : M < L) (hD : M < D) : Step (Above M) w o w1 o1 := h.mono fun k hk => by rcases hk with hk | hk <;> (subst hk; assumption)
theorem Step.above1 {L : Nat} (h : Step (Only L) w o w1 o1) (hL : M < L) : Step (Above M) w o w1 o1 := h.mono fun k hk => by cases hk; exact hL
theorem Step.above0 (h : Step Nobody w o w1 o1) : Step (Above M) w o w1 o1 := h.mono fun k hk => hk.elim
theorem Step.noneAbove (h : Step (Above M) w o w1 o1) (hM : ∀ k, k < w.heap.size → (o k).1 ≤ M) : Step Nobody w o w1 o1 :=
  ⟨h.os, h.tape, h.output, h.size, h.own, fun k hk _ => h.block k hk (fun hx => by have := hM k hk; change M < _ at hx; omega)⟩
end
theorem equal_is {w : World} {o : Own} {v1 v2 : Value} {l1 l2 : List (List UInt8)} (h1 : Slc w o v1 l1.length (tvs l1)) (h2 : Slc w o v2 l2.length (tvs l2)) (hmany : l1.length ≤ 1000000) (r : Bool) (hr : (l1 == l2) = r) :
    Calls Try.prog 49 #[v1, v2] w (Ret Nobody w o fun v _ _ => v = .bool r) := by
  have := equal_any h1 h2 hmany; rw [hr] at this; exact this
/-- texts(x.Batches()): the first call, as the second one takes it. -/
theorem batches_texts {w : World} {o : Own} {L p pd : Nat} {m : LogM} (h : LogAt w o L p pd m) :
    Calls Try.prog 51 #[.pointer (some ⟨p, 0, none⟩)] w (Ret Nobody w o fun v w' o' => Calls Try.prog 50 #[v] w' (Ret Nobody w' o' fun v' w2 o2 => Slc w2 o2 v' m.records.length (tvs m.records))) := by
  obtain ⟨g1, g2, g3, g4, g5, g6, g7⟩ := h.wf
  refine (batches_is h _ rfl).mono ?_
  rintro e w' ⟨v, o', rfl, hs, vs, hown, hn, hb, hz⟩
  have hl : vs.length = m.records.length := hb.1
  refine ⟨v, o', rfl, hs, ?_⟩
  rw [← hl] at hown
  exact texts_any (own_slc hown fun k hk => by rw [hz k (hown.lt k hk).1]) hb (by omega)
end Go.Proofs.YtfgggkheadfiaaaR
