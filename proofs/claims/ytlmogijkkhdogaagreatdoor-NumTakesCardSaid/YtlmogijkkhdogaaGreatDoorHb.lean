/- strconv's decimals in memory: what one holds, and what a store into it makes of it. -/
import Derived.Test.YtlmogijkkhdogaaGreatDoorGb
namespace Go.Proofs.YtlmogijkkhdogaaGreatDoor
open Go.RowKit
set_option maxRecDepth 100000

structure Dec where
  d : Nat → Nat
  nd : Nat
  dp : Int
  neg : Bool
  tr : Bool

/-- a decimal lies in block E. -/
structure DecAt (w : World) (E : Nat) (D : Dec) : Prop where
  dig : ∀ i, i < 800 → w.cell? ⟨E, i, none⟩ = some (.int .u8 (D.d i : Nat))
  nd : w.cell? ⟨E, 800, none⟩ = some (.int .i64 (D.nd : Nat))
  dp : w.cell? ⟨E, 801, none⟩ = some (.int .i64 D.dp)
  neg : w.cell? ⟨E, 802, none⟩ = some (.bool D.neg)
  tr : w.cell? ⟨E, 803, none⟩ = some (.bool D.tr)
  froz : ∀ o, w.frozen? ⟨E, o, none⟩ = false

/-- but for block E the memory is as it was. -/
structure Kin (E : Nat) (w w' : World) : Prop where
  os : w'.os = w.os
  tape : w'.tape = w.tape
  output : w'.output = w.output
  size : w'.heap.size = w.heap.size
  block : ∀ k, k ≠ E → w'.heap[k]? = w.heap[k]?
theorem Kin.refl (E : Nat) (w : World) : Kin E w w := ⟨rfl, rfl, rfl, rfl, fun _ _ => rfl⟩
theorem Kin.trans {E : Nat} {a b c : World} (h : Kin E a b) (k : Kin E b c) : Kin E a c :=
  ⟨k.os.trans h.os, k.tape.trans h.tape, k.output.trans h.output, k.size.trans h.size, fun i hi => (k.block i hi).trans (h.block i hi)⟩
theorem Kin.drew (E : Nat) (w : World) : Kin E w w.drew := ⟨rfl, rfl, rfl, rfl, fun _ _ => rfl⟩
theorem Kin.drewN (E : Nat) (w : World) (n : Nat) : Kin E w (w.drewN n) := ⟨rfl, rfl, rfl, rfl, fun _ _ => rfl⟩
theorem Kin.set (E o : Nat) (w : World) (v : Value) : Kin E w (w.setCell ⟨E, o, none⟩ v) :=
  ⟨rfl, rfl, rfl, by simp [World.setCell], fun k hk => Below.heap_setCell _ _ _ _ hk⟩
theorem Kin.below {E B : Nat} {w w' : World} (h : Kin E w w') (hB : B ≤ E) : Below B w w' := ⟨h.os, h.tape, h.output, by rw [h.size]; exact Nat.le_refl _, fun k hk => h.block k (by omega)⟩
theorem DecAt.drewN {w : World} {E : Nat} {D : Dec} (h : DecAt w E D) (n : Nat) : DecAt (w.drewN n) E D := ⟨h.dig, h.nd, h.dp, h.neg, h.tr, h.froz⟩

theorem cell_set {w : World} {E o p : Nat} {v u : Value} (hu : w.cell? ⟨E, o, none⟩ = some u) : (w.setCell ⟨E, o, none⟩ v).cell? ⟨E, p, none⟩ = if p = o then some v else w.cell? ⟨E, p, none⟩ := by
  unfold World.cell? at hu ⊢
  simp only [World.setCell, Array.getElem?_modify]
  cases hb : w.heap[E]? with
  | none => rw [hb] at hu; cases hu
  | some b =>
    rw [hb] at hu
    cases b with
    | cells cs t s =>
      simp only [if_true, Option.map_some, Array.getElem?_setIfInBounds] at hu ⊢
      have hlt : o < cs.size := by
        rcases Nat.lt_or_ge o cs.size with h | h
        · exact h
        · rw [Array.getElem?_eq_none h] at hu; cases hu
      by_cases h : p = o
      · subst h; simp [hlt]
      · simp [h, Ne.symm h]
    | _ => simp at hu
theorem froz_set {w : World} {E o : Nat} {v : Value} (hu : ∀ p, w.frozen? ⟨E, p, none⟩ = false) (p : Nat) : (w.setCell ⟨E, o, none⟩ v).frozen? ⟨E, p, none⟩ = false := by
  have h := hu p
  unfold World.frozen? at h ⊢
  simp only [World.setCell, Array.getElem?_modify]
  cases hb : w.heap[E]? with
  | none => simp
  | some b =>
    rw [hb] at h
    cases b <;> simp_all

def Dec.put (D : Dec) (i v : Nat) : Dec := { D with d := fun j => if j = i then v else D.d j }
theorem DecAt.setDig {w : World} {E : Nat} {D : Dec} (h : DecAt w E D) {i : Nat} (hi : i < 800) (v : Nat) : DecAt (w.setCell ⟨E, i, none⟩ (.int .u8 v)) E (D.put i v) := by
  have hc := fun p => cell_set (p := p) (v := .int .u8 v) (h.dig i hi)
  refine ⟨fun j hj => ?_, ?_, ?_, ?_, ?_, froz_set h.froz⟩
  · rw [hc, h.dig j hj]
    show _ = some (Value.int IntKind.u8 ((if j = i then v else D.d j : Nat) : Int))
    split <;> rfl
  · rw [hc, if_neg (by omega)]; exact h.nd
  · rw [hc, if_neg (by omega)]; exact h.dp
  · rw [hc, if_neg (by omega)]; exact h.neg
  · rw [hc, if_neg (by omega)]; exact h.tr
theorem DecAt.setNd {w : World} {E : Nat} {D : Dec} (h : DecAt w E D) (v : Nat) : DecAt (w.setCell ⟨E, 800, none⟩ (.int .i64 v)) E { D with nd := v } := by
  have hc := fun p => cell_set (p := p) (v := .int .i64 v) h.nd
  refine ⟨fun j hj => ?_, ?_, ?_, ?_, ?_, froz_set h.froz⟩
  · rw [hc, if_neg (by omega)]; exact h.dig j hj
  · rw [hc, if_pos rfl]
  · rw [hc, if_neg (by omega)]; exact h.dp
  · rw [hc, if_neg (by omega)]; exact h.neg
  · rw [hc, if_neg (by omega)]; exact h.tr
theorem DecAt.setDp {w : World} {E : Nat} {D : Dec} (h : DecAt w E D) (v : Int) : DecAt (w.setCell ⟨E, 801, none⟩ (.int .i64 v)) E { D with dp := v } := by
  have hc := fun p => cell_set (p := p) (v := .int .i64 v) h.dp
  refine ⟨fun j hj => ?_, ?_, ?_, ?_, ?_, froz_set h.froz⟩
  · rw [hc, if_neg (by omega)]; exact h.dig j hj
  · rw [hc, if_neg (by omega)]; exact h.nd
  · rw [hc, if_pos rfl]
  · rw [hc, if_neg (by omega)]; exact h.neg
  · rw [hc, if_neg (by omega)]; exact h.tr
theorem DecAt.setNeg {w : World} {E : Nat} {D : Dec} (h : DecAt w E D) (v : Bool) : DecAt (w.setCell ⟨E, 802, none⟩ (.bool v)) E { D with neg := v } := by
  have hc := fun p => cell_set (p := p) (v := .bool v) h.neg
  refine ⟨fun j hj => ?_, ?_, ?_, ?_, ?_, froz_set h.froz⟩
  · rw [hc, if_neg (by omega)]; exact h.dig j hj
  · rw [hc, if_neg (by omega)]; exact h.nd
  · rw [hc, if_neg (by omega)]; exact h.dp
  · rw [hc, if_pos rfl]
  · rw [hc, if_neg (by omega)]; exact h.tr
theorem DecAt.setTr {w : World} {E : Nat} {D : Dec} (h : DecAt w E D) (v : Bool) : DecAt (w.setCell ⟨E, 803, none⟩ (.bool v)) E { D with tr := v } := by
  have hc := fun p => cell_set (p := p) (v := .bool v) h.tr
  refine ⟨fun j hj => ?_, ?_, ?_, ?_, ?_, froz_set h.froz⟩
  · rw [hc, if_neg (by omega)]; exact h.dig j hj
  · rw [hc, if_neg (by omega)]; exact h.nd
  · rw [hc, if_neg (by omega)]; exact h.dp
  · rw [hc, if_neg (by omega)]; exact h.neg
  · rw [hc, if_pos rfl]
end Go.Proofs.YtlmogijkkhdogaaGreatDoor
