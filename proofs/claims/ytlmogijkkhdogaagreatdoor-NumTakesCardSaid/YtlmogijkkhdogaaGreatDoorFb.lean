/- num.Less and num.Same, the document's Less, same: what they answer of any two floats, by their bits. No conditions. -/
import Derived.Test.YtlmogijkkhdogaaGreatDoorProg
import Derived.Test.YtlmogijkkhdogaaGreatDoorFa
import Derived.WalkKit
import Derived.WalkSpells
import Derived.WalkLawsBesides
import Derived.Laws.FloatBits
import Derived.Laws.FloatArith
import Derived.Laws.Externs
namespace Go.Proofs.YtlmogijkkhdogaaGreatDoor
open Go.RowKit
set_option maxRecDepth 100000

theorem run62 (n : Nat) (w : World) : (callFunc 62 #[.float .f64 n]).run Tryz.prog w = .ok (.value (.int .u64 n)) w := by
  rw [run_callFunc_extern Tryz.func62 (by kernel_rfl) (by kernel_rfl) (by kernel_rfl) (e := Extern.MathFloatBits.float64bits) (by kernel_rfl)]; rfl
theorem run14 (n : Int) (w : World) : (callFunc 14 #[.int .u64 n]).run Tryz.prog w = .ok (.value (.float .f64 n.toNat)) w := by
  rw [run_callFunc_extern Tryz.func14 (by kernel_rfl) (by kernel_rfl) (by kernel_rfl) (e := Extern.MathFloatBits.float64frombits) (by kernel_rfl)]; rfl
attribute [local go_sem] run62 run14

theorem forder_self (x : Nat) : (FloatKind.f64.format.order x x != some .eq) = fnan x := by
  show (Ieee.double.order x x != some .eq) = fnan x
  cases hn : fnan x
  · rw [forder hn hn, cmp_int, if_neg (by omega), if_pos rfl]; rfl
  · rw [forder_nan_left hn]; rfl

theorem isNaN_any (x : Nat) (w : World) : Calls Tryz.prog 18 #[.float .f64 x] w fun e w' => e = .returned (.bool (fnan x)) ∧ w = w' := by
  have h := forder_self x
  go_enter Tryz.func18, Tryz.ntmps18
  go_wp2
  go_ret
  exact ⟨rfl, rfl⟩

theorem wrap_u64n (n : Nat) : IntKind.u64.wrap (n : Int) = ((n % 18446744073709551616 : Nat) : Int) := by
  rw [IntKind.wrap_u64]; omega
theorem bits64 (op : BinOp) (x y : Nat) (r : BitVec 64) (h : bits op .u64 (x : Int) (y : Int) = IntKind.u64.wrap (r.toNat : Int)) : bits op .u64 (x : Int) (y : Int) = (r.toNat : Int) := by
  rw [h, wrap_u64n, Nat.mod_eq_of_lt r.isLt]
theorem ofInt64 (x : Nat) : BitVec.ofInt 64 (x : Int) = BitVec.ofNat 64 x := by
  apply BitVec.eq_of_toNat_eq
  simp [BitVec.toNat_ofInt, BitVec.toNat_ofNat]
theorem bits_or64 (x y : Nat) : bits .or .u64 (x : Int) (y : Int) = ((BitVec.ofNat 64 x ||| BitVec.ofNat 64 y).toNat : Int) := by
  refine bits64 _ _ _ _ ?_
  unfold bits
  simp only [IntKind.bits]
  rw [ofInt64, ofInt64]; rfl
theorem bits_xor64 (x y : Nat) : bits .xor .u64 (x : Int) (y : Int) = ((BitVec.ofNat 64 x ^^^ BitVec.ofNat 64 y).toNat : Int) := by
  refine bits64 _ _ _ _ ?_
  unfold bits
  simp only [IntKind.bits]
  rw [ofInt64, ofInt64]; rfl
theorem bits_or63 (x : Nat) (hx : x < W63) : bits .or .u64 (x : Int) 9223372036854775808 = ((x + W63 : Nat) : Int) := by
  have h := bits_or64 x W63
  rw [show ((W63 : Nat) : Int) = 9223372036854775808 from rfl] at h
  rw [h, BitVec.toNat_or, BitVec.toNat_ofNat, BitVec.toNat_ofNat]
  unfold W63 at *
  rw [Nat.mod_eq_of_lt (by omega), Nat.mod_eq_of_lt (by omega)]
  have h2 := Nat.two_pow_add_eq_or_of_lt (i := 63) (b := x) (by omega) 1
  rw [Nat.or_comm]
  rw [show (9223372036854775808 : Nat) = 2 ^ 63 * 1 from rfl, ← h2]
  omega
theorem bits_not64 (x : Nat) (hx : x < 18446744073709551616) : bits .xor .u64 18446744073709551615 (x : Int) = ((18446744073709551615 - x : Nat) : Int) := by
  have h := bits_xor64 18446744073709551615 x
  rw [show ((18446744073709551615 : Nat) : Int) = 18446744073709551615 from rfl] at h
  rw [h, show BitVec.ofNat 64 18446744073709551615 = BitVec.allOnes 64 from by decide, BitVec.allOnes_xor, BitVec.toNat_not, BitVec.toNat_ofNat]
  omega

theorem signbit_any (x : Nat) (hx : x < 18446744073709551616) (w : World) : Calls Tryz.prog 54 #[.float .f64 x] w fun e w' => e = .returned (.bool (fneg x)) ∧ w = w' := by
  have h : decide (wrap64 (x : Int) < 0) = fneg x := by
    unfold wrap64
    rcases fsplit hx with ⟨a, b, c⟩ | ⟨a, b, c⟩ <;> rw [a] <;> unfold W63 at * <;> simp <;> omega
  go_enter Tryz.func54, Tryz.ntmps54
  go_wp2
  go_ret
  exact ⟨rfl, rfl⟩

theorem rank_any (x : Nat) (hx : x < 18446744073709551616) (w : World) : Calls Tryz.prog 67 #[.float .f64 x] w fun e w' => e = .returned (.int .u64 (frank x)) ∧ w = w' := by
  cases hn : fnan x
  · cases hs : fneg x
    · go_enter Tryz.func67, Tryz.ntmps67
      go_wp2_with (first | (go_at_call 18; refine (isNaN_any x _).mono ?_; rintro e w' ⟨rfl, rfl⟩) | (go_at_call 54; refine (signbit_any x hx _).mono ?_; rintro e w' ⟨rfl, rfl⟩))
      go_ret
      have hr : frank x = x + W63 := by unfold frank; rw [hn, hs]; rfl
      have hx' : x < W63 := by rcases fsplit hx with ⟨a, b, c⟩ | ⟨a, b, c⟩ <;> simp [hs] at a; omega
      rw [bits_or63 x hx', hr]
      exact ⟨rfl, rfl⟩
    · go_enter Tryz.func67, Tryz.ntmps67
      go_wp2_with (first | (go_at_call 18; refine (isNaN_any x _).mono ?_; rintro e w' ⟨rfl, rfl⟩) | (go_at_call 54; refine (signbit_any x hx _).mono ?_; rintro e w' ⟨rfl, rfl⟩))
      all_goals (go_ret)
      all_goals (have hr : frank x = 18446744073709551615 - x := by unfold frank; rw [hn, hs]; rfl)
      all_goals first
        | (exfalso; rename_i h; revert h; decide)
        | (rw [show IntKind.u64.max = 18446744073709551615 from by decide, bits_not64 x hx, hr]; exact ⟨rfl, rfl⟩)
        | (rw [hr, ← bits_not64 x hx]; exact ⟨rfl, rfl⟩)
  · go_enter Tryz.func67, Tryz.ntmps67
    go_wp2_with (first | (go_at_call 18; refine (isNaN_any x _).mono ?_; rintro e w' ⟨rfl, rfl⟩) | (go_at_call 54; refine (signbit_any x hx _).mono ?_; rintro e w' ⟨rfl, rfl⟩))
    go_ret
    rw [frank_nan hn]
    exact ⟨rfl, rfl⟩

theorem less_any (x y : Nat) (hx : x < 18446744073709551616) (hy : y < 18446744073709551616) (w : World) : Calls Tryz.prog 29 #[.float .f64 x, .float .f64 y] w fun e w' => e = .returned (.bool (decide (frank x < frank y))) ∧ w = w' := by
  go_enter Tryz.func29, Tryz.ntmps29
  go_wp2_with (go_at_call 67; refine (rank_any _ (by assumption) _).mono ?_; rintro e w' ⟨rfl, rfl⟩)
  go_ret
  exact ⟨rfl, rfl⟩
theorem beq_nat (x y : Nat) : ((x : Int) == (y : Int)) = decide (x = y) := by
  by_cases h : x = y
  · subst h; simp
  · rw [decide_eq_false h]; simp; omega
theorem numSame_any (x y : Nat) (hx : x < 18446744073709551616) (hy : y < 18446744073709551616) (w : World) : Calls Tryz.prog 31 #[.float .f64 x, .float .f64 y] w fun e w' => e = .returned (.bool (decide (frank x = frank y))) ∧ w = w' := by
  have h := beq_nat (frank x) (frank y)
  go_enter Tryz.func31, Tryz.ntmps31
  go_wp2_with (go_at_call 67; refine (rank_any _ (by assumption) _).mono ?_; rintro e w' ⟨rfl, rfl⟩)
  go_ret
  exact ⟨rfl, rfl⟩
theorem lawSame_any (x y : Nat) (w : World) : Calls Tryz.prog 22 #[.float .f64 x, .float .f64 y] w fun e w' => e = .returned (.bool (decide (x = y))) ∧ w = w' := by
  have h := beq_nat x y
  go_enter Tryz.func22, Tryz.ntmps22
  go_wp2
  go_ret
  exact ⟨rfl, rfl⟩

theorem forder_lt {x y : Nat} (hx : fnan x = false) (hy : fnan y = false) : (FloatKind.f64.format.order x y == some .lt) = decide (fsval x < fsval y) := by
  show (Ieee.double.order x y == some .lt) = _
  rw [forder hx hy, cmp_int]
  by_cases h : fsval x < fsval y
  · rw [if_pos h, decide_eq_true h]; rfl
  · rw [if_neg h, decide_eq_false h]
    by_cases h2 : fsval x = fsval y
    · rw [if_pos h2]; rfl
    · rw [if_neg h2]; rfl
theorem fzero_iff {x : Nat} (hx : x < 18446744073709551616) : fzero x = true ↔ x = 0 ∨ x = W63 := by
  unfold fzero
  rw [decide_eq_true_eq]
  rcases fsplit hx with ⟨a, b, c⟩ | ⟨a, b, c⟩ <;> unfold W63 at * <;> omega
theorem fnan_zero {x : Nat} (h : fzero x = true) : fnan x = false := by
  unfold fzero at h; rw [decide_eq_true_eq] at h
  unfold fnan; rw [h]; rfl
theorem forder_zero {x : Nat} (hx : x < 18446744073709551616) (hn : fnan x = false) : (FloatKind.f64.format.order x 0 == some .eq) = fzero x := by
  show (Ieee.double.order x 0 == some .eq) = _
  rw [forder hn (show fnan 0 = false from rfl), show fsval 0 = 0 from rfl, cmp_int]
  have z1 := @fval_inj (frung x) 0
  rw [fval_zero] at z1
  unfold fzero
  by_cases h : frung x = 0
  · have e : fsval x = 0 := by unfold fsval; rw [h, fval_zero]; cases fneg x <;> rfl
    rw [e, decide_eq_true h]; rfl
  · have e : fsval x ≠ 0 := by unfold fsval; have := mt z1.1 h; cases fneg x <;> simp <;> omega
    rw [decide_eq_false h]
    by_cases h2 : fsval x < 0
    · rw [if_pos h2]; rfl
    · rw [if_neg h2, if_neg e]; rfl

theorem quo_pos : floatBits .quo .f64 4607182418800017408 0 = some 9218868437227405312 := by kernel_rfl
theorem quo_neg : floatBits .quo .f64 4607182418800017408 9223372036854775808 = some 18442240474082181120 := by kernel_rfl

theorem refLess_any (x y : Nat) (hx : x < 18446744073709551616) (hy : y < 18446744073709551616) (w : World) : Calls Tryz.prog 30 #[.float .f64 x, .float .f64 y] w fun e w' => e = .returned (.bool (decide (frank x < frank y))) ∧ w = w' := by
  rw [← fless_eq hx hy]
  have hsx := forder_self x
  have hsy := forder_self y
  unfold flessD
  cases hnx : fnan x
  · rw [hnx] at hsx
    cases hny : fnan y
    · rw [hny] at hsy
      have h0x := forder_zero hx hnx
      have h0y := forder_zero hy hny
      cases hzx : fzero x
      · rw [hzx] at h0x
        have hl := forder_lt hnx hny
        go_enter Tryz.func30, Tryz.ntmps30
        go_wp2
        go_ret
        exact ⟨rfl, rfl⟩
      · rw [hzx] at h0x
        cases hzy : fzero y
        · rw [hzy] at h0y
          have hl := forder_lt hnx hny
          go_enter Tryz.func30, Tryz.ntmps30
          go_wp2
          go_ret
          exact ⟨rfl, rfl⟩
        · rw [hzy] at h0y
          have q1 := fun w : World => run_float_arith (P := Tryz.prog) w .quo 24 .f64 _ _ _ quo_pos
          have q2 := fun w : World => run_float_arith (P := Tryz.prog) w .quo 24 .f64 _ _ _ quo_neg
          have o1 : (FloatKind.f64.format.order 9218868437227405312 0 == some .lt) = false := by kernel_rfl
          have o2 : (FloatKind.f64.format.order 18442240474082181120 0 == some .lt) = true := by kernel_rfl
          have o3 : (FloatKind.f64.format.order 9218868437227405312 0 == some .gt) = true := by kernel_rfl
          have o4 : (FloatKind.f64.format.order 18442240474082181120 0 == some .gt) = false := by kernel_rfl
          rcases (fzero_iff hx).1 hzx with rfl | rfl <;> rcases (fzero_iff hy).1 hzy with rfl | rfl <;> unfold W63 at * <;> go_enter Tryz.func30, Tryz.ntmps30 <;> go_wp2 <;> go_ret
          all_goals exact ⟨rfl, rfl⟩
    · rw [hny] at hsy
      go_enter Tryz.func30, Tryz.ntmps30
      go_wp2
      go_ret
      exact ⟨rfl, rfl⟩
  · rw [hnx] at hsx
    go_enter Tryz.func30, Tryz.ntmps30
    go_wp2
    go_ret
    exact ⟨rfl, rfl⟩
end Go.Proofs.YtlmogijkkhdogaaGreatDoor
