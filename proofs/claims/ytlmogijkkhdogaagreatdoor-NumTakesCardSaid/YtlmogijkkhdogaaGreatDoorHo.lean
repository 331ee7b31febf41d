/- strconv's parseFloat64: a float and an error that hang on the arguments alone; with an error the float is infinite. -/
import Derived.Test.YtlmogijkkhdogaaGreatDoorHa
namespace Go.Proofs.YtlmogijkkhdogaaGreatDoor
open Go.RowKit
set_option maxRecDepth 100000
attribute [local go_sem] run240

theorem bitLenAux_le : ∀ f x, Lib.bitLenAux f x ≤ f
  | 0, _ => Nat.le_refl _
  | f + 1, x => by
    show (if x = 0 then 0 else 1 + Lib.bitLenAux f (x / 2)) ≤ f + 1
    have := bitLenAux_le f (x / 2)
    split <;> omega
theorem bitLen_rng (d : Nat) (h : 1 ≤ d) : 1 ≤ Lib.bitLen d ∧ Lib.bitLen d ≤ 64 := by
  refine ⟨?_, bitLenAux_le 64 d⟩
  show 1 ≤ (if d = 0 then 0 else 1 + Lib.bitLenAux 63 (d / 2))
  rw [if_neg (by omega)]; omega

theorem parse64_ex (d : Nat) (p : Int) (sg : Nat) (hd1 : 1 ≤ d) (hd : d < 18446744073709551616) (h1 : -345 ≤ p) (h2 : p ≤ 310) :
    ∃ (v : Nat) (ok : Bool), v < 18446744073709551616 ∧ (ok = false → finf v = true) ∧ ∀ w, Tab10 w → 9 < w.heap.size → Calls Tryz.prog 242 #[.int .u64 d, .int .i64 p, .int .u64 sg] w fun r w' => r = .returned (.tuple #[.float .f64 v, errP ok]) ∧ Below w.heap.size w w' := by
  obtain ⟨b1, b2⟩ := bitLen_rng d hd1
  obtain ⟨b, hb⟩ : ∃ b, b = Lib.bitLen d := ⟨_, rfl⟩
  have HB := Lib.hid hb
  rw [← hb] at b1 b2
  obtain ⟨lp, hlp⟩ : ∃ lp, lp = p * 108853 / 32768 := ⟨_, rfl⟩
  have hlp1 : -1200 ≤ lp := by omega
  have hlp2 : lp ≤ 1200 := by omega
  obtain ⟨y, hy⟩ : ∃ y : Int, 53 - (b : Int) - lp = y := ⟨_, rfl⟩
  obtain ⟨e, hye⟩ : ∃ e : Int, (y < 1074 ∧ y = e) ∨ (1074 ≤ y ∧ 1074 = e) := by
    by_cases h : y < 1074
    · exact ⟨y, Or.inl ⟨h, rfl⟩⟩
    · exact ⟨1074, Or.inr ⟨by omega, rfl⟩⟩
  have he1 : e ≤ 1074 := by omega
  have he2 : -1300 ≤ e := by omega
  have he3 : e ≤ 53 - b - lp := by omega
  obtain ⟨k, hk⟩ : ∃ k : Nat, p = (k : Int) - 348 := ⟨(p + 348).toNat, by omega⟩
  have hk6 : k < 696 := by omega
  obtain ⟨g, hg⟩ : ∃ g : Nat, (64 : Int) - b = (g : Int) := ⟨64 - b, by omega⟩
  have hg0 : (g : Int) < 64 := by omega
  have hg1 : (0 : Int) ≤ (g : Int) := by omega
  obtain ⟨s, hs⟩ : ∃ s : Nat, -(e - g + lp + 3) = (s : Int) := ⟨(-(e - g + lp + 3)).toNat, by omega⟩
  have hbi : (b : Int) ≤ 64 := by omega
  have hbj : (0 : Int) ≤ (b : Int) := by omega
  have HLP := Lib.hid hlp
  have HS := Lib.hid hs
  obtain ⟨y1, y2⟩ := row_ok k hk6
  subst hk
  have hlen : ∀ w, Calls Tryz.prog 160 #[.int .u64 (d : Int)] w fun e w' => e = .returned (.int .i64 (b : Nat)) ∧ w' = w := by
    intro w
    have h := Tryz.bits_Len64 (d : Int) w (by omega) (by omega)
    rw [Int.toNat_natCast, ← hb] at h
    exact h
  have HLEN := Lib.hid hlen
  clear hlen
  by_cases hs64 : 64 ≤ s
  · obtain ⟨o, ho, eo⟩ := bitsN .or (sg : Int) 0
    refine ⟨o, true, ho, by simp, fun w ht hw => ?_⟩
    have HT := Lib.hid ht
    have hs6 : (64 : Int) ≤ (s : Int) := by omega
    clear ht hs hlp hb hs64
    rcases hye with ⟨q1, rfl⟩ | ⟨q1, rfl⟩
    all_goals (
    first | have hmn : min (1074 : Int) y = y := (by omega) | have hmn : min (1074 : Int) y = 1074 := (by omega)
    go_enter Tryz.func242, Tryz.ntmps242
    go_wp2_with (first
      | (go_at_call 160; refine (HLEN.out _).mono ?_; rintro e w' ⟨rfl, rfl⟩)
      | (go_at_call 216; refine (log2_any _ (by omega) (by omega) _).mono ?_; rw [← HLP.out]; rintro e w' ⟨rfl, rfl⟩)
      | (go_at_call 215; refine (prescale_any _ k _ _ _ _ _ (World.alloc _ (.cells #[.int .u64 0, .int .u64 0, .int .i64 0] 246)) (HT.out.below hw ((Below.refl _ _).alloc (Nat.le_refl _) _)) hw hk6 (by omega) (by omega) (by omega) (by omega) (heap_new _ _)).mono ?_; rw [HS.out]; rintro r w2 ⟨rfl, c0, c1, c2, hb2⟩; have c0' := Lib.hid c0; have c1' := Lib.hid c1)))
    all_goals (
    refine bodyPost_ret (v := .tuple #[.float .f64 o, .nilIface]) (by simp [results, Tryz.results242, go_sem]) rfl ?_
    exact ⟨rfl, ((Below.refl _ _).alloc (Nat.le_refl _) _).trans hb2⟩)
  · have hs6 : s < 64 := by omega
    obtain ⟨x, hx, ex⟩ := wrapN ((d : Int) * 2 ^ g)
    obtain ⟨r1, hr1, U1⟩ := uscale_ex x (pHi k) (pLo k) s hx y1 y2 hs6
    obtain ⟨na, hna, ena⟩ := bitsN .and (r1 : Int) 1
    obtain ⟨c, hc⟩ : ∃ c : Bool, c = decide (36028797018963966 ≤ r1) := ⟨_, rfl⟩
    obtain ⟨u2, hu2, eu2⟩ := bitsN .or (if c then (r1 : Int) / 2 else (r1 : Int)) (na : Int)
    obtain ⟨rr, hrr, R1⟩ := round_ex u2
    obtain ⟨o, ho, eo⟩ := bitsN .or (sg : Int) (rr : Int)
    obtain ⟨v, ok, hv, hok, K1⟩ := pack_ex o ho (if c then -(e - 1) else -e) (by split <;> omega) (by split <;> omega)
    refine ⟨v, ok, hv, hok, fun w ht hw => ?_⟩
    have HT := Lib.hid ht
    have HU := Lib.hid U1
    have HR := Lib.hid R1
    have HKK := Lib.hid K1
    have hs7 : (s : Int) < 64 := by omega
    have hd6 : decide ((64 : Int) ≤ (s : Int)) = false := by simp; omega
    clear ht hs hlp hb U1 R1 K1 hs64 hs6 hok hv hrr hr1 hx ho hna hu2
    have EX := Lib.hid ex
    have ENA := Lib.hid ena
    have EO := Lib.hid eo
    clear ex ena eo
    cases c
    · have hc2 : (r1 : Int) < 36028797018963966 := by have := of_decide_eq_false hc.symm; omega
      have hd7 : decide ((36028797018963966 : Int) ≤ (r1 : Int)) = false := by rw [decide_eq_false_iff_not]; omega
      simp only [Bool.false_eq_true, if_false] at eu2 HKK
      have EU2 := Lib.hid eu2
      clear eu2
      clear hc
      rcases hye with ⟨q1, rfl⟩ | ⟨q1, rfl⟩
      all_goals (
      first | have hmn : min (1074 : Int) y = y := (by omega) | have hmn : min (1074 : Int) y = 1074 := (by omega)
      go_enter Tryz.func242, Tryz.ntmps242
      go_upto_region 8 with (first
      | (go_at_call 160; refine (HLEN.out _).mono ?_; rintro e w' ⟨rfl, rfl⟩)
      | (go_at_call 216; refine (log2_any _ (by omega) (by omega) _).mono ?_; rw [← HLP.out]; rintro e w' ⟨rfl, rfl⟩)
      | (go_at_call 215; refine (prescale_any _ k _ _ _ _ _ (World.alloc _ (.cells #[.int .u64 0, .int .u64 0, .int .i64 0] 246)) (HT.out.below hw ((Below.refl _ _).alloc (Nat.le_refl _) _)) hw hk6 (by omega) (by omega) (by omega) (by omega) (heap_new _ _)).mono ?_; rw [HS.out]; rintro r w2 ⟨rfl, c0, c1, c2, hb2⟩; have c0' := Lib.hid c0; have c1' := Lib.hid c1)
      | (go_at_call 217; with_reducible refine (HU.out _ _ c0'.out c1'.out c2).mono ?_; rintro r w3 ⟨rfl, b3⟩)
      | (go_at_call 222; refine (unmin_any _).mono ?_; rintro e w' ⟨rfl, rfl⟩)
      | (go_at_call 161; refine (Tryz.internal_strconv_bool2_int _ _).mono ?_; rintro e w' ⟨rfl, rfl⟩)
      | (go_at_call 221; refine (HR.out _).mono ?_; rintro e w' ⟨rfl, rfl⟩)
      | (go_at_call 269; refine (HKK.out _).mono ?_; rintro e w' ⟨rfl, rfl⟩))
      have ex := EX.out
      go_upto_region 9 with (first
      | (go_at_call 160; refine (HLEN.out _).mono ?_; rintro e w' ⟨rfl, rfl⟩)
      | (go_at_call 216; refine (log2_any _ (by omega) (by omega) _).mono ?_; rw [← HLP.out]; rintro e w' ⟨rfl, rfl⟩)
      | (go_at_call 215; refine (prescale_any _ k _ _ _ _ _ (World.alloc _ (.cells #[.int .u64 0, .int .u64 0, .int .i64 0] 246)) (HT.out.below hw ((Below.refl _ _).alloc (Nat.le_refl _) _)) hw hk6 (by omega) (by omega) (by omega) (by omega) (heap_new _ _)).mono ?_; rw [HS.out]; rintro r w2 ⟨rfl, c0, c1, c2, hb2⟩; have c0' := Lib.hid c0; have c1' := Lib.hid c1)
      | (go_at_call 217; with_reducible refine (HU.out _ _ c0'.out c1'.out c2).mono ?_; rintro r w3 ⟨rfl, b3⟩)
      | (go_at_call 222; refine (unmin_any _).mono ?_; rintro e w' ⟨rfl, rfl⟩)
      | (go_at_call 161; refine (Tryz.internal_strconv_bool2_int _ _).mono ?_; rintro e w' ⟨rfl, rfl⟩)
      | (go_at_call 221; refine (HR.out _).mono ?_; rintro e w' ⟨rfl, rfl⟩)
      | (go_at_call 269; refine (HKK.out _).mono ?_; rintro e w' ⟨rfl, rfl⟩))
      clear ex
      go_upto_region 10 with (first
      | (go_at_call 160; refine (HLEN.out _).mono ?_; rintro e w' ⟨rfl, rfl⟩)
      | (go_at_call 216; refine (log2_any _ (by omega) (by omega) _).mono ?_; rw [← HLP.out]; rintro e w' ⟨rfl, rfl⟩)
      | (go_at_call 215; refine (prescale_any _ k _ _ _ _ _ (World.alloc _ (.cells #[.int .u64 0, .int .u64 0, .int .i64 0] 246)) (HT.out.below hw ((Below.refl _ _).alloc (Nat.le_refl _) _)) hw hk6 (by omega) (by omega) (by omega) (by omega) (heap_new _ _)).mono ?_; rw [HS.out]; rintro r w2 ⟨rfl, c0, c1, c2, hb2⟩; have c0' := Lib.hid c0; have c1' := Lib.hid c1)
      | (go_at_call 217; with_reducible refine (HU.out _ _ c0'.out c1'.out c2).mono ?_; rintro r w3 ⟨rfl, b3⟩)
      | (go_at_call 222; refine (unmin_any _).mono ?_; rintro e w' ⟨rfl, rfl⟩)
      | (go_at_call 161; refine (Tryz.internal_strconv_bool2_int _ _).mono ?_; rintro e w' ⟨rfl, rfl⟩)
      | (go_at_call 221; refine (HR.out _).mono ?_; rintro e w' ⟨rfl, rfl⟩)
      | (go_at_call 269; refine (HKK.out _).mono ?_; rintro e w' ⟨rfl, rfl⟩))
      have ena := ENA.out
      have eu2 := EU2.out
      go_upto_region 12 with (first
      | (go_at_call 160; refine (HLEN.out _).mono ?_; rintro e w' ⟨rfl, rfl⟩)
      | (go_at_call 216; refine (log2_any _ (by omega) (by omega) _).mono ?_; rw [← HLP.out]; rintro e w' ⟨rfl, rfl⟩)
      | (go_at_call 215; refine (prescale_any _ k _ _ _ _ _ (World.alloc _ (.cells #[.int .u64 0, .int .u64 0, .int .i64 0] 246)) (HT.out.below hw ((Below.refl _ _).alloc (Nat.le_refl _) _)) hw hk6 (by omega) (by omega) (by omega) (by omega) (heap_new _ _)).mono ?_; rw [HS.out]; rintro r w2 ⟨rfl, c0, c1, c2, hb2⟩; have c0' := Lib.hid c0; have c1' := Lib.hid c1)
      | (go_at_call 217; with_reducible refine (HU.out _ _ c0'.out c1'.out c2).mono ?_; rintro r w3 ⟨rfl, b3⟩)
      | (go_at_call 222; refine (unmin_any _).mono ?_; rintro e w' ⟨rfl, rfl⟩)
      | (go_at_call 161; refine (Tryz.internal_strconv_bool2_int _ _).mono ?_; rintro e w' ⟨rfl, rfl⟩)
      | (go_at_call 221; refine (HR.out _).mono ?_; rintro e w' ⟨rfl, rfl⟩)
      | (go_at_call 269; refine (HKK.out _).mono ?_; rintro e w' ⟨rfl, rfl⟩))
      clear ena eu2
      have eo := EO.out
      go_wp2_with (first
      | (go_at_call 160; refine (HLEN.out _).mono ?_; rintro e w' ⟨rfl, rfl⟩)
      | (go_at_call 216; refine (log2_any _ (by omega) (by omega) _).mono ?_; rw [← HLP.out]; rintro e w' ⟨rfl, rfl⟩)
      | (go_at_call 215; refine (prescale_any _ k _ _ _ _ _ (World.alloc _ (.cells #[.int .u64 0, .int .u64 0, .int .i64 0] 246)) (HT.out.below hw ((Below.refl _ _).alloc (Nat.le_refl _) _)) hw hk6 (by omega) (by omega) (by omega) (by omega) (heap_new _ _)).mono ?_; rw [HS.out]; rintro r w2 ⟨rfl, c0, c1, c2, hb2⟩; have c0' := Lib.hid c0; have c1' := Lib.hid c1)
      | (go_at_call 217; with_reducible refine (HU.out _ _ c0'.out c1'.out c2).mono ?_; rintro r w3 ⟨rfl, b3⟩)
      | (go_at_call 222; refine (unmin_any _).mono ?_; rintro e w' ⟨rfl, rfl⟩)
      | (go_at_call 161; refine (Tryz.internal_strconv_bool2_int _ _).mono ?_; rintro e w' ⟨rfl, rfl⟩)
      | (go_at_call 221; refine (HR.out _).mono ?_; rintro e w' ⟨rfl, rfl⟩)
      | (go_at_call 269; refine (HKK.out _).mono ?_; rintro e w' ⟨rfl, rfl⟩)))
      all_goals (
      refine bodyPost_ret (v := .tuple #[.float .f64 v, errP ok]) (by simp [results, Tryz.results242, go_sem]) rfl ?_
      exact ⟨rfl, (((Below.refl _ _).alloc (Nat.le_refl _) _).trans hb2).trans (b3.mono (by have := hb2.size; simp at this; omega))⟩)
    · have hc2 : 36028797018963966 ≤ (r1 : Int) := by have := of_decide_eq_true hc.symm; omega
      have hd7 : decide ((36028797018963966 : Int) ≤ (r1 : Int)) = true := decide_eq_true hc2
      simp only [if_true] at eu2 HKK
      have EU2 := Lib.hid eu2
      clear eu2
      clear hc
      rcases hye with ⟨q1, rfl⟩ | ⟨q1, rfl⟩
      all_goals (
      try simp only [show -((1074 : Int) - 1) = -1073 from rfl] at HKK
      first | have hmn : min (1074 : Int) y = y := (by omega) | have hmn : min (1074 : Int) y = 1074 := (by omega)
      go_enter Tryz.func242, Tryz.ntmps242
      go_upto_region 8 with (first
      | (go_at_call 160; refine (HLEN.out _).mono ?_; rintro e w' ⟨rfl, rfl⟩)
      | (go_at_call 216; refine (log2_any _ (by omega) (by omega) _).mono ?_; rw [← HLP.out]; rintro e w' ⟨rfl, rfl⟩)
      | (go_at_call 215; refine (prescale_any _ k _ _ _ _ _ (World.alloc _ (.cells #[.int .u64 0, .int .u64 0, .int .i64 0] 246)) (HT.out.below hw ((Below.refl _ _).alloc (Nat.le_refl _) _)) hw hk6 (by omega) (by omega) (by omega) (by omega) (heap_new _ _)).mono ?_; rw [HS.out]; rintro r w2 ⟨rfl, c0, c1, c2, hb2⟩; have c0' := Lib.hid c0; have c1' := Lib.hid c1)
      | (go_at_call 217; with_reducible refine (HU.out _ _ c0'.out c1'.out c2).mono ?_; rintro r w3 ⟨rfl, b3⟩)
      | (go_at_call 222; refine (unmin_any _).mono ?_; rintro e w' ⟨rfl, rfl⟩)
      | (go_at_call 161; refine (Tryz.internal_strconv_bool2_int _ _).mono ?_; rintro e w' ⟨rfl, rfl⟩)
      | (go_at_call 221; refine (HR.out _).mono ?_; rintro e w' ⟨rfl, rfl⟩)
      | (go_at_call 269; refine (HKK.out _).mono ?_; rintro e w' ⟨rfl, rfl⟩))
      have ex := EX.out
      go_upto_region 9 with (first
      | (go_at_call 160; refine (HLEN.out _).mono ?_; rintro e w' ⟨rfl, rfl⟩)
      | (go_at_call 216; refine (log2_any _ (by omega) (by omega) _).mono ?_; rw [← HLP.out]; rintro e w' ⟨rfl, rfl⟩)
      | (go_at_call 215; refine (prescale_any _ k _ _ _ _ _ (World.alloc _ (.cells #[.int .u64 0, .int .u64 0, .int .i64 0] 246)) (HT.out.below hw ((Below.refl _ _).alloc (Nat.le_refl _) _)) hw hk6 (by omega) (by omega) (by omega) (by omega) (heap_new _ _)).mono ?_; rw [HS.out]; rintro r w2 ⟨rfl, c0, c1, c2, hb2⟩; have c0' := Lib.hid c0; have c1' := Lib.hid c1)
      | (go_at_call 217; with_reducible refine (HU.out _ _ c0'.out c1'.out c2).mono ?_; rintro r w3 ⟨rfl, b3⟩)
      | (go_at_call 222; refine (unmin_any _).mono ?_; rintro e w' ⟨rfl, rfl⟩)
      | (go_at_call 161; refine (Tryz.internal_strconv_bool2_int _ _).mono ?_; rintro e w' ⟨rfl, rfl⟩)
      | (go_at_call 221; refine (HR.out _).mono ?_; rintro e w' ⟨rfl, rfl⟩)
      | (go_at_call 269; refine (HKK.out _).mono ?_; rintro e w' ⟨rfl, rfl⟩))
      clear ex
      go_upto_region 10 with (first
      | (go_at_call 160; refine (HLEN.out _).mono ?_; rintro e w' ⟨rfl, rfl⟩)
      | (go_at_call 216; refine (log2_any _ (by omega) (by omega) _).mono ?_; rw [← HLP.out]; rintro e w' ⟨rfl, rfl⟩)
      | (go_at_call 215; refine (prescale_any _ k _ _ _ _ _ (World.alloc _ (.cells #[.int .u64 0, .int .u64 0, .int .i64 0] 246)) (HT.out.below hw ((Below.refl _ _).alloc (Nat.le_refl _) _)) hw hk6 (by omega) (by omega) (by omega) (by omega) (heap_new _ _)).mono ?_; rw [HS.out]; rintro r w2 ⟨rfl, c0, c1, c2, hb2⟩; have c0' := Lib.hid c0; have c1' := Lib.hid c1)
      | (go_at_call 217; with_reducible refine (HU.out _ _ c0'.out c1'.out c2).mono ?_; rintro r w3 ⟨rfl, b3⟩)
      | (go_at_call 222; refine (unmin_any _).mono ?_; rintro e w' ⟨rfl, rfl⟩)
      | (go_at_call 161; refine (Tryz.internal_strconv_bool2_int _ _).mono ?_; rintro e w' ⟨rfl, rfl⟩)
      | (go_at_call 221; refine (HR.out _).mono ?_; rintro e w' ⟨rfl, rfl⟩)
      | (go_at_call 269; refine (HKK.out _).mono ?_; rintro e w' ⟨rfl, rfl⟩))
      have ena := ENA.out
      have eu2 := EU2.out
      go_upto_region 12 with (first
      | (go_at_call 160; refine (HLEN.out _).mono ?_; rintro e w' ⟨rfl, rfl⟩)
      | (go_at_call 216; refine (log2_any _ (by omega) (by omega) _).mono ?_; rw [← HLP.out]; rintro e w' ⟨rfl, rfl⟩)
      | (go_at_call 215; refine (prescale_any _ k _ _ _ _ _ (World.alloc _ (.cells #[.int .u64 0, .int .u64 0, .int .i64 0] 246)) (HT.out.below hw ((Below.refl _ _).alloc (Nat.le_refl _) _)) hw hk6 (by omega) (by omega) (by omega) (by omega) (heap_new _ _)).mono ?_; rw [HS.out]; rintro r w2 ⟨rfl, c0, c1, c2, hb2⟩; have c0' := Lib.hid c0; have c1' := Lib.hid c1)
      | (go_at_call 217; with_reducible refine (HU.out _ _ c0'.out c1'.out c2).mono ?_; rintro r w3 ⟨rfl, b3⟩)
      | (go_at_call 222; refine (unmin_any _).mono ?_; rintro e w' ⟨rfl, rfl⟩)
      | (go_at_call 161; refine (Tryz.internal_strconv_bool2_int _ _).mono ?_; rintro e w' ⟨rfl, rfl⟩)
      | (go_at_call 221; refine (HR.out _).mono ?_; rintro e w' ⟨rfl, rfl⟩)
      | (go_at_call 269; refine (HKK.out _).mono ?_; rintro e w' ⟨rfl, rfl⟩))
      clear ena eu2
      have eo := EO.out
      go_wp2_with (first
      | (go_at_call 160; refine (HLEN.out _).mono ?_; rintro e w' ⟨rfl, rfl⟩)
      | (go_at_call 216; refine (log2_any _ (by omega) (by omega) _).mono ?_; rw [← HLP.out]; rintro e w' ⟨rfl, rfl⟩)
      | (go_at_call 215; refine (prescale_any _ k _ _ _ _ _ (World.alloc _ (.cells #[.int .u64 0, .int .u64 0, .int .i64 0] 246)) (HT.out.below hw ((Below.refl _ _).alloc (Nat.le_refl _) _)) hw hk6 (by omega) (by omega) (by omega) (by omega) (heap_new _ _)).mono ?_; rw [HS.out]; rintro r w2 ⟨rfl, c0, c1, c2, hb2⟩; have c0' := Lib.hid c0; have c1' := Lib.hid c1)
      | (go_at_call 217; with_reducible refine (HU.out _ _ c0'.out c1'.out c2).mono ?_; rintro r w3 ⟨rfl, b3⟩)
      | (go_at_call 222; refine (unmin_any _).mono ?_; rintro e w' ⟨rfl, rfl⟩)
      | (go_at_call 161; refine (Tryz.internal_strconv_bool2_int _ _).mono ?_; rintro e w' ⟨rfl, rfl⟩)
      | (go_at_call 221; refine (HR.out _).mono ?_; rintro e w' ⟨rfl, rfl⟩)
      | (go_at_call 269; refine (HKK.out _).mono ?_; rintro e w' ⟨rfl, rfl⟩)))
      all_goals (
      refine bodyPost_ret (v := .tuple #[.float .f64 v, errP ok]) (by simp [results, Tryz.results242, go_sem]) rfl ?_
      exact ⟨rfl, (((Below.refl _ _).alloc (Nat.le_refl _) _).trans hb2).trans (b3.mono (by have := hb2.size; simp at this; omega))⟩)
end Go.Proofs.YtlmogijkkhdogaaGreatDoor
