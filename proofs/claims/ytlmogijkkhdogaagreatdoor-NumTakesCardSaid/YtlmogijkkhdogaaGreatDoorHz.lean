/- What the numbers' code reads of the library's own variables; atof64's contract. -/
import Derived.Test.YtlmogijkkhdogaaGreatDoorHp
import Derived.Test.YtlmogijkkhdogaaGreatDoorHa
namespace Go.Proofs.YtlmogijkkhdogaaGreatDoor
open Go.RowKit
set_option maxRecDepth 100000

structure Lay (w : World) : Prop where
  g : Glob w
  t : Tab10 w
  s : ∃ B, B ≤ w.heap.size ∧ Slow B w ∧ Pow10F B w
theorem Lay.size {w : World} (h : Lay w) : 14 ≤ w.heap.size := by
  obtain ⟨B, h1, h2, _⟩ := h.s
  have := h2.b17
  omega
theorem Lay.below {w w' : World} (h : Lay w) (hb : Below w.heap.size w w') : Lay w' := by
  obtain ⟨B, h1, h2, h3⟩ := h.s
  have := h2.b17
  have := hb.size
  exact ⟨h.g.below hb, h.t.below (by omega) hb, B, by omega, h2.below (hb.mono h1), h3.below h2.b17 (hb.mono h1)⟩

def Atof (l : List UInt8) (v : Nat) (ok : Bool) : Prop := ∀ w, Lay w → Calls Tryz.prog 177 #[.string ⟨l.toArray⟩] w fun e w' => e = .returned (.tuple #[.float .f64 v, .int .i64 (l.length : Nat), errP ok]) ∧ Below w.heap.size w w'
end Go.Proofs.YtlmogijkkhdogaaGreatDoor
