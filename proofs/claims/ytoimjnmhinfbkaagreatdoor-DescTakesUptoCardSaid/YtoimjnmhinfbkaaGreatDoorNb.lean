import Derived.Test.YtoimjnmhinfbkaaGreatDoorNa
namespace Go.Proofs.YtoimjnmhinfbkaaGreatDoor
open Go.RowKit
set_option maxRecDepth 100000

/-- figures in pairs. -/
def hexB (l : List UInt8) : Bool := l.length % 2 == 0 && l.all lowhex

theorem hex_index (c : UInt8) : (Lib.indexByte [48, 49, 50, 51, 52, 53, 54, 55, 56, 57, 97, 98, 99, 100, 101, 102] c < 0) ↔ lowhex c = false := by
  have h : ∀ n : Fin 256, (Lib.indexByte [48, 49, 50, 51, 52, 53, 54, 55, 56, 57, 97, 98, 99, 100, 101, 102] (UInt8.ofNat n.val) < 0) ↔ lowhex (UInt8.ofNat n.val) = false := by decide +kernel
  have := h ⟨c.toNat, c.toNat_lt⟩
  simpa using this

theorem name_parts (l : List UInt8) : nameB l = (Lib.hasPrefix l [115, 104, 97, 50, 53, 54, 58] && hexB (Lib.trimPrefix l [115, 104, 97, 50, 53, 54, 58]) && ((Lib.trimPrefix l [115, 104, 97, 50, 53, 54, 58]).length / 2 == 32)) := by
  unfold Lib.trimPrefix Lib.hasPrefix
  cases hp : ([115, 104, 97, 50, 53, 54, 58] : List UInt8).isPrefixOf l with
  | false =>
    simp only [Bool.false_and]
    have hne : ¬ l.take 7 = [115, 104, 97, 50, 53, 54, 58] := fun e => by
      have : ([115, 104, 97, 50, 53, 54, 58] : List UInt8) <+: l := by rw [← e]; exact List.take_prefix 7 l
      rw [← List.isPrefixOf_iff_prefix, hp] at this
      cases this
    simp [nameB, hne]
  | true =>
    obtain ⟨t, rfl⟩ := List.isPrefixOf_iff_prefix.1 hp
    simp only [if_true, Bool.true_and]
    have e1 : (([115, 104, 97, 50, 53, 54, 58] : List UInt8) ++ t).drop ([115, 104, 97, 50, 53, 54, 58] : List UInt8).length = t := List.drop_left
    rw [e1]
    have e2 : (([115, 104, 97, 50, 53, 54, 58] : List UInt8) ++ t).take 7 = [115, 104, 97, 50, 53, 54, 58] := rfl
    have e3 : (([115, 104, 97, 50, 53, 54, 58] : List UInt8) ++ t).drop 7 = t := rfl
    have e4 : (([115, 104, 97, 50, 53, 54, 58] : List UInt8) ++ t).length = 7 + t.length := by simp; omega
    unfold nameB hexB
    rw [e2, e3, e4]
    cases t.all lowhex with
    | false => simp
    | true =>
      simp only [Bool.and_true, beq_self_eq_true]
      rw [Bool.eq_iff_iff]
      simp
      omega

end Go.Proofs.YtoimjnmhinfbkaaGreatDoor
