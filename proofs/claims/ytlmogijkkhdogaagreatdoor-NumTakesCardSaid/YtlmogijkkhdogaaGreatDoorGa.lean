/- The unrounded numbers of strconv: floor, ceil, round, nudge, the scaling: each answers a number that hangs on its arguments alone. No conditions but those named. -/
import Derived.Test.YtlmogijkkhdogaaGreatDoorFe
namespace Go.Proofs.YtlmogijkkhdogaaGreatDoor
open Go.RowKit
set_option maxRecDepth 100000

theorem wrapN (x : Int) : ∃ n : Nat, n < 18446744073709551616 ∧ IntKind.u64.wrap x = (n : Int) := by
  rw [IntKind.wrap_u64]
  exact ⟨(x % 18446744073709551616).toNat, by omega, by omega⟩
theorem bitsN (op : BinOp) (x y : Int) : ∃ n : Nat, n < 18446744073709551616 ∧ bits op .u64 x y = (n : Int) := by
  unfold bits
  cases op <;> exact wrapN _
theorem ceil_ex (u : Nat) : ∃ r : Nat, r < 4611686018427387904 ∧ ∀ w, Calls Tryz.prog 219 #[.int .u64 u] w fun e w' => e = .returned (.int .u64 r) ∧ w = w' := by
  obtain ⟨n, hn, e⟩ := wrapN ((u : Int) + 3)
  refine ⟨n / 4, by omega, fun w => ?_⟩
  go_enter Tryz.func219, Tryz.ntmps219
  go_wp2
  go_ret
  refine ⟨?_, rfl⟩
  show Ending.returned (.int .u64 _) = _
  congr 2
theorem floor_ex (u : Nat) : ∃ r : Nat, r < 4611686018427387904 ∧ ∀ w, Calls Tryz.prog 220 #[.int .u64 u] w fun e w' => e = .returned (.int .u64 r) ∧ w = w' := by
  obtain ⟨n, hn, e⟩ := wrapN (u : Int)
  refine ⟨n / 4, by omega, fun w => ?_⟩
  go_enter Tryz.func220, Tryz.ntmps220
  go_wp2
  go_ret
  refine ⟨?_, rfl⟩
  show Ending.returned (.int .u64 _) = _
  congr 2
theorem round_ex (u : Nat) : ∃ r : Nat, r < 4611686018427387904 ∧ ∀ w, Calls Tryz.prog 221 #[.int .u64 u] w fun e w' => e = .returned (.int .u64 r) ∧ w = w' := by
  obtain ⟨n, hn, e⟩ := wrapN ((u : Int) + 1)
  obtain ⟨m, hm, e2⟩ := bitsN .and ((u : Int) / 4) 1
  obtain ⟨k, hk, e3⟩ := wrapN ((n : Int) + m)
  refine ⟨k / 4, by omega, fun w => ?_⟩
  go_enter Tryz.func221, Tryz.ntmps221
  go_wp2
  go_ret
  refine ⟨?_, rfl⟩
  show Ending.returned (.int .u64 _) = _
  congr 2
theorem nudge_ex (u : Nat) (d : Int) : ∃ r : Nat, r < 18446744073709551616 ∧ ∀ w, Calls Tryz.prog 218 #[.int .u64 u, .int .i64 d] w fun e w' => e = .returned (.int .u64 r) ∧ w = w' := by
  obtain ⟨n, hn, e⟩ := wrapN ((u : Int) + IntKind.u64.wrap d)
  refine ⟨n, hn, fun w => ?_⟩
  go_enter Tryz.func218, Tryz.ntmps218
  go_wp2
  go_ret
  refine ⟨?_, rfl⟩
  show Ending.returned (.int .u64 _) = _
  congr 2
theorem log10_any (x : Int) (h1 : -2000 ≤ x) (h2 : x ≤ 2000) (w : World) : Calls Tryz.prog 159 #[.int .i64 x] w fun e w' => e = .returned (.int .i64 (x * 78913 / 262144)) ∧ w = w' := by
  go_enter Tryz.func159, Tryz.ntmps159
  go_wp2
  go_ret
  exact ⟨rfl, rfl⟩
theorem log2_any (x : Int) (h1 : -2000 ≤ x) (h2 : x ≤ 2000) (w : World) : Calls Tryz.prog 216 #[.int .i64 x] w fun e w' => e = .returned (.int .i64 (x * 108853 / 32768)) ∧ w = w' := by
  go_enter Tryz.func216, Tryz.ntmps216
  go_wp2
  go_ret
  exact ⟨rfl, rfl⟩
theorem skewed_any (x : Int) (h1 : -2000 ≤ x) (h2 : x ≤ 2000) (w : World) : Calls Tryz.prog 214 #[.int .i64 x] w fun e w' => e = .returned (.int .i64 ((x * 631305 - 261663) / 2097152)) ∧ w = w' := by
  go_enter Tryz.func214, Tryz.ntmps214
  go_wp2
  go_ret
  exact ⟨rfl, rfl⟩

theorem and63 (s : Nat) (h : s < 64) : bits .and .i64 (s : Int) 63 = (s : Int) := by
  have : ∀ n : Fin 64, bits .and .i64 (n.val : Int) 63 = (n.val : Int) := by decide +kernel
  exact this ⟨s, h⟩

theorem uscale_ex (x hi lo s : Nat) (hx : x < 18446744073709551616) (h1 : hi < 18446744073709551616) (h2 : lo < 18446744073709551616) (hs : s < 64) :
    ∃ r : Nat, r < 18446744073709551616 ∧ ∀ (w : World) (b : Nat), w.cell? ⟨b, 0, none⟩ = some (.int .u64 hi) → w.cell? ⟨b, 1, none⟩ = some (.int .u64 lo) → w.cell? ⟨b, 2, none⟩ = some (.int .i64 s) →
      Calls Tryz.prog 217 #[.int .u64 x, .pointer (some ⟨b, 0, none⟩)] w fun e w' => e = .returned (.int .u64 r) ∧ Below w.heap.size w w' := by
  have hA := and63 s hs
  generalize hP : x * hi = p at *
  have hs0 : (0 : Int) ≤ (s : Int) := by omega
  by_cases hc : (IntKind.u64.wrap ((p : Int) / 18446744073709551616 / 2 ^ s * 2 ^ s) != (p : Int) / 18446744073709551616) = true
  · obtain ⟨r, hr, e1⟩ := bitsN .or ((p : Int) / 18446744073709551616 / 2 ^ s) 1
    refine ⟨r, hr, fun w b c1 c2 c3 => ?_⟩
    go_enter Tryz.func217, Tryz.ntmps217
    go_wp2_with (first | (go_at_call 187; refine (Tryz.bits_Mul64 _ _ (by assumption) (by assumption) _).mono ?_; rintro e w' ⟨rfl, rfl⟩) | (go_at_call 239; refine (bool64_any _ _).mono ?_; rintro e w' ⟨rfl, rfl⟩))
    go_ret
    exact ⟨rfl, Below.refl _ _⟩
  · have hc' : (IntKind.u64.wrap ((p : Int) / 18446744073709551616 / 2 ^ s * 2 ^ s) != (p : Int) / 18446744073709551616) = false := by simpa using hc
    clear hc
    generalize hQ : x * lo = q at *
    obtain ⟨v1, hv1⟩ : ∃ b, b = decide ((p : Int) % 18446744073709551616 < (q : Int) / 18446744073709551616) := ⟨_, rfl⟩
    obtain ⟨v2, hv2⟩ : ∃ b, b = decide (1 < IntKind.u64.wrap ((p : Int) % 18446744073709551616 - (q : Int) / 18446744073709551616)) := ⟨_, rfl⟩
    obtain ⟨h', hh', e1⟩ := wrapN ((p : Int) / 18446744073709551616 - (if v1 then 1 else 0))
    obtain ⟨r, hr, e2⟩ := bitsN .or ((h' : Int) / 2 ^ s) (if v2 then 1 else 0)
    refine ⟨r, hr, fun w b c1 c2 c3 => ?_⟩
    replace hv1 := hv1.symm
    replace hv2 := hv2.symm
    cases v1 <;> cases v2 <;> simp only [Bool.false_eq_true, if_false, if_true, Int.sub_zero] at e1 e2
    all_goals go_enter Tryz.func217, Tryz.ntmps217
    all_goals (go_wp2_with (first | (go_at_call 187; refine (Tryz.bits_Mul64 _ _ (by assumption) (by assumption) _).mono ?_; rintro e w' ⟨rfl, rfl⟩) | (go_at_call 239; refine (bool64_any _ _).mono ?_; rintro e w' ⟨rfl, rfl⟩)))
    all_goals (go_quiet ((go_at_call 239; exact Calls.quiet_of_same ((bool64_any _ _).mono fun _ _ h => ⟨h.1, h.2.symm⟩))))
    all_goals go_wp2
    all_goals go_ret
    all_goals exact ⟨rfl, below_drewN (Below.refl _ _) _⟩
end Go.Proofs.YtlmogijkkhdogaaGreatDoor
