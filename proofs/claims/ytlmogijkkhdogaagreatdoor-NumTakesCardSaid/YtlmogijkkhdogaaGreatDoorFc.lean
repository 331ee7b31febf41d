/- strconv's special, at a number's text: it is none. No conditions but that it is a number's. -/
import Derived.Test.YtlmogijkkhdogaaGreatDoorFb
namespace Go.Proofs.YtlmogijkkhdogaaGreatDoor
open Go.RowKit
set_option maxRecDepth 100000

def isDig (c : UInt8) : Bool := 48 ≤ c && c ≤ 57
theorem isDig_iff (c : UInt8) : isDig c = true ↔ 48 ≤ c.toNat ∧ c.toNat ≤ 57 := by
  unfold isDig
  rw [Bool.and_eq_true, decide_eq_true_eq, decide_eq_true_eq, UInt8.le_iff_toNat_le, UInt8.le_iff_toNat_le]; rfl
theorem byte_get (l : List UInt8) (k : Nat) (h : k < l.length) (h' : k < (⟨l.toArray⟩ : ByteArray).size) : (⟨l.toArray⟩ : ByteArray)[k] = l[k] := rfl
theorem byte_extract (l : List UInt8) (a b : Nat) : (⟨l.toArray⟩ : ByteArray).extract a b = ⟨((l.drop a).take (b - a)).toArray⟩ := by
  apply ByteArray.ext
  simp [ByteArray.data_extract, List.extract_toArray, List.extract_eq_take_drop]

theorem prefix_none (c : UInt8) (t : List UInt8) (hd : isDig c = true) (ht : t.length ≤ 1000) (w : World) :
    Calls Tryz.prog 264 #[.string ⟨(c :: t).toArray⟩, .string ⟨#[105, 110, 102, 105, 110, 105, 116, 121]⟩] w fun e w' => e = .returned (.int .i64 0) ∧ w = w' := by
  rw [isDig_iff] at hd
  have h1 : ¬ (65 : Int) ≤ (c.toNat : Int) := by omega
  have h2 : ((c.toNat : Int) != (((⟨#[105, 110, 102, 105, 110, 105, 116, 121]⟩ : ByteArray)[0]'(by decide)).toNat : Int)) = true := by
    rw [show ((((⟨#[105, 110, 102, 105, 110, 105, 116, 121]⟩ : ByteArray)[0]'(by decide)).toNat : Int)) = 105 from by decide]
    simp; omega
  have h3 : (0 : Nat) < (⟨(c :: t).toArray⟩ : ByteArray).size := by show 0 < (c :: t).length; simp
  have h4 : (⟨(c :: t).toArray⟩ : ByteArray)[0]'h3 = c := rfl
  have h5 : (0 : Int) < (t.length : Int) + 1 := by omega
  go_enter Tryz.func264, Tryz.ntmps264
  go_wp2
  all_goals (go_loop [6] (fun i => i = .int .i64 0) (fun _ => 0))
  all_goals first | rfl | skip
  all_goals (subst hrel; go_wp2)
  all_goals (go_ret; exact ⟨rfl, rfl⟩)

theorem special_any (b : Bool) (c : UInt8) (t : List UInt8) (hd : isDig c = true) (ht : t.length ≤ 1000) (w : World) :
    Calls Tryz.prog 230 #[.string ⟨(if b then 45 :: c :: t else c :: t).toArray⟩] w fun e w' => e = .returned (.tuple #[.float .f64 0, .int .i64 0, .bool false]) ∧ w = w' := by
  have hd' := (isDig_iff c).1 hd
  cases b
  · simp only [Bool.false_eq_true, if_false]
    have h3 : (0 : Nat) < (⟨(c :: t).toArray⟩ : ByteArray).size := by show 0 < (c :: t).length; simp
    have h4 : (⟨(c :: t).toArray⟩ : ByteArray)[0]'h3 = c := rfl
    have n1 : ((c.toNat : Int) == 43) = false := by simp; omega
    have n2 : ((c.toNat : Int) == 45) = false := by simp; omega
    have n3 : ((c.toNat : Int) == 105) = false := by simp; omega
    have n4 : ((c.toNat : Int) == 73) = false := by simp; omega
    have n5 : ((c.toNat : Int) == 110) = false := by simp; omega
    have n6 : ((c.toNat : Int) == 78) = false := by simp; omega
    go_enter Tryz.func230, Tryz.ntmps230
    go_wp2
    refine bodyPost_ret (v := .tuple #[.float .f64 0, .int .i64 0, .bool false]) (by simp [results, Tryz.results230, go_sem]) rfl ?_
    exact ⟨rfl, rfl⟩
  · simp only [if_true]
    have h3 : (0 : Nat) < (⟨(45 :: c :: t).toArray⟩ : ByteArray).size := by show 0 < (45 :: c :: t).length; simp
    have h4 : (⟨(45 :: c :: t).toArray⟩ : ByteArray)[0]'h3 = 45 := rfl
    have e1 : (⟨(45 :: c :: t).toArray⟩ : ByteArray).extract 1 (t.length + 1 + 1) = ⟨(c :: t).toArray⟩ := by
      rw [byte_extract]
      simp
    go_enter Tryz.func230, Tryz.ntmps230
    go_wp2_with (go_at_call 264; (try rw [e1]); refine (prefix_none c t hd ht _).mono ?_; rintro e w' ⟨rfl, rfl⟩)
    refine bodyPost_ret (v := .tuple #[.float .f64 0, .int .i64 0, .bool false]) (by simp [results, Tryz.results230, go_sem]) rfl ?_
    exact ⟨rfl, rfl⟩
end Go.Proofs.YtlmogijkkhdogaaGreatDoor
