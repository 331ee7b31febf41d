/- strconv's rightShift. -/
import Derived.Test.YtlmogijkkhdogaaGreatDoorHd
namespace Go.Proofs.YtlmogijkkhdogaaGreatDoor
open Go.RowKit
set_option maxRecDepth 100000

theorem least_of {P : Nat → Prop} (n : Nat) (h : P n) : ∃ m, m ≤ n ∧ P m ∧ ∀ j, j < m → ¬ P j := by
  induction n using Nat.strongRecOn with
  | ind n ih =>
    by_cases hx : ∃ j, j < n ∧ P j
    · obtain ⟨j, hj, hp⟩ := hx
      obtain ⟨m, h1, h2, h3⟩ := ih j hj hp
      exact ⟨m, by omega, h2, h3⟩
    · exact ⟨n, Nat.le_refl _, h, fun j hj hp => hx ⟨j, hj, hp⟩⟩

def xd (D : Dec) (i : Nat) : Nat := if i < D.nd then D.d i - 48 else 0
def nv (D : Dec) : Nat → Nat
  | 0 => 0
  | r + 1 => nv D r * 10 + xd D r
def nn (D : Dec) (k R : Nat) : Nat → Nat
  | 0 => nv D R
  | j + 1 => nn D k R j % 2 ^ k * 10 + xd D (R + j)

theorem xd_le {D : Dec} (hd : DigOk D) (i : Nat) : xd D i ≤ 9 := by
  unfold xd; split
  · rename_i h; have := hd i h; omega
  · omega
theorem nv_ge {D : Dec} (h1 : 1 ≤ D.nd) (h0 : 49 ≤ D.d 0) : ∀ j, 10 ^ j ≤ nv D (j + 1)
  | 0 => by simp [nv, xd]; split <;> omega
  | j + 1 => by have := nv_ge h1 h0 j; rw [show nv D (j + 1 + 1) = nv D (j + 1) * 10 + xd D (j + 1) from rfl, Nat.pow_succ]; omega
theorem nv_R {D : Dec} {k : Nat} (hk : k ≤ 60) (h1 : 1 ≤ D.nd) (h0 : 49 ≤ D.d 0) : ∃ R, 1 ≤ R ∧ R ≤ 20 ∧ 2 ^ k ≤ nv D R ∧ ∀ j, j < R → nv D j < 2 ^ k := by
  have h : 2 ^ k ≤ nv D 20 := by
    have h1 : 10 ^ 19 ≤ nv D 20 := nv_ge h1 h0 19
    have h2 : 2 ^ k ≤ 2 ^ 60 := Nat.pow_le_pow_right (by decide) hk
    have h3 : (2 : Nat) ^ 60 ≤ 10 ^ 19 := by decide
    omega
  obtain ⟨R, hR, hp, hm⟩ := least_of (P := fun R => 2 ^ k ≤ nv D R) 20 h
  refine ⟨R, ?_, hR, hp, fun j hj => by have := hm j hj; simp only [Nat.not_le] at this; exact this⟩
  cases R with
  | zero => have : 0 < 2 ^ k := Nat.pow_pos (by decide); simp [nv] at hp
  | succ R => omega
theorem nv_lt {D : Dec} {k R : Nat} (hd : DigOk D) (hR : 1 ≤ R) (hm : ∀ j, j < R → nv D j < 2 ^ k) : nv D R < 10 * 2 ^ k := by
  cases R with
  | zero => omega
  | succ R =>
    have h := hm R (by omega)
    have := xd_le hd R
    rw [show nv D (R + 1) = nv D R * 10 + xd D R from rfl]
    omega
theorem nn_lt {D : Dec} {k R : Nat} (hd : DigOk D) (hR : 1 ≤ R) (hm : ∀ j, j < R → nv D j < 2 ^ k) : ∀ j, nn D k R j < 10 * 2 ^ k
  | 0 => nv_lt hd hR hm
  | j + 1 => by
    have h := xd_le hd (R + j)
    have h2 : nn D k R j % 2 ^ k < 2 ^ k := Nat.mod_lt _ (Nat.pow_pos (by decide))
    show nn D k R j % 2 ^ k * 10 + xd D (R + j) < _
    omega
theorem nn_dvd (D : Dec) (k R : Nat) : ∀ i, i ≤ k → 2 ^ i ∣ nn D k R (D.nd - R + i)
  | 0, _ => Nat.one_dvd _
  | i + 1, hi => by
    have h := nn_dvd D k R i (by omega)
    have hx : xd D (R + (D.nd - R + i)) = 0 := by unfold xd; rw [if_neg (by omega)]
    show 2 ^ (i + 1) ∣ nn D k R (D.nd - R + i) % 2 ^ k * 10 + xd D (R + (D.nd - R + i))
    rw [hx, Nat.add_zero, Nat.pow_succ]
    have h2 : 2 ^ i ∣ nn D k R (D.nd - R + i) % 2 ^ k := (Nat.dvd_mod_iff (Nat.pow_dvd_pow 2 (show i ≤ k by omega))).2 h
    exact Nat.mul_dvd_mul h2 (by decide)
theorem nn_J {D : Dec} {k R : Nat} : ∃ i, i ≤ k + 1 ∧ nn D k R (D.nd - R + i) = 0 ∧ ∀ j, j < i → nn D k R (D.nd - R + j) ≠ 0 := by
  have hk := nn_dvd D k R k (Nat.le_refl _)
  have h : nn D k R (D.nd - R + (k + 1)) = 0 := by
    show nn D k R (D.nd - R + k) % 2 ^ k * 10 + xd D (R + (D.nd - R + k)) = 0
    rw [Nat.mod_eq_zero_of_dvd hk, show xd D (R + (D.nd - R + k)) = 0 from by unfold xd; rw [if_neg (by omega)]]
  obtain ⟨i, h1, h2, h3⟩ := least_of (P := fun i => nn D k R (D.nd - R + i) = 0) (k + 1) h
  exact ⟨i, h1, h2, h3⟩

theorem shr_yes (n k : Nat) (h : n < 2 ^ k) : ((n : Int) / 2 ^ k == 0) = true := by
  have e : ((n : Int) / 2 ^ k) = ((n / 2 ^ k : Nat) : Int) := by push_cast; rfl
  rw [e, Nat.div_eq_of_lt h]; rfl
theorem shr_no (n k : Nat) (h : 2 ^ k ≤ n) : ((n : Int) / 2 ^ k == 0) = false := by
  have e : ((n : Int) / 2 ^ k) = ((n / 2 ^ k : Nat) : Int) := by push_cast; rfl
  have h2 : 0 < n / 2 ^ k := Nat.div_pos h (Nat.pow_pos (by decide))
  rw [e]; simp; omega
theorem nv_big {D : Dec} {k R : Nat} (hk : k ≤ 60) (hd : DigOk D) (hR : 1 ≤ R) (hm : ∀ j, j < R → nv D j < 2 ^ k) (j : Nat) (hj : j ≤ R) : nv D j < 11529215046068469760 := by
  have h2 : 2 ^ k ≤ 2 ^ 60 := Nat.pow_le_pow_right (by decide) hk
  have h3 : (10 : Nat) * 2 ^ 60 = 11529215046068469760 := by decide
  rcases Nat.lt_or_ge j R with h | h
  · have := hm j h; omega
  · obtain rfl : j = R := by omega
    have := nv_lt hd hR hm; omega

def tU (D : Dec) (k R : Nat) : Nat → Bool
  | 0 => D.tr
  | j + 1 => tU D k R j || (decide (800 ≤ j) && decide (0 < nn D k R j / 2 ^ k))
def rsD (D : Dec) (k R j : Nat) : Dec := { D with d := fun i => if i < j ∧ i < 800 then nn D k R i / 2 ^ k + 48 else D.d i, dp := D.dp - ((R : Int) - 1), tr := tU D k R j }
def steps (k : Nat) : Nat → Nat → Nat
  | 0, _ => 0
  | f + 1, n => if n = 0 then 0 else 1 + steps k f (n % 2 ^ k * 10)
theorem rsD_zero (D : Dec) (k R : Nat) : rsD D k R 0 = { D with dp := D.dp - ((R : Int) - 1) } := by
  unfold rsD tU
  simp
theorem rsD_put (D : Dec) (k R j : Nat) (hj : j < 800) : (rsD D k R j).put j (nn D k R j / 2 ^ k + 48) = rsD D k R (j + 1) := by
  unfold rsD Dec.put
  have e : tU D k R (j + 1) = tU D k R j := by
    show (tU D k R j || (decide (800 ≤ j) && _)) = _
    rw [show decide (800 ≤ j) = false from by simp; omega]
    simp
  rw [e]
  congr 1
  funext i
  simp only
  by_cases h : i = j
  · subst h; rw [if_pos rfl, if_pos ⟨by omega, hj⟩]
  · rw [if_neg h]
    by_cases h2 : i < j ∧ i < 800
    · rw [if_pos h2, if_pos ⟨by omega, h2.2⟩]
    · rw [if_neg h2, if_neg (by omega)]
theorem rsD_big (D : Dec) (k R j : Nat) (hj : 800 ≤ j) (b : Bool) (hb : tU D k R (j + 1) = b) : { rsD D k R j with tr := b } = rsD D k R (j + 1) := by
  have hf : (fun i => if i < j ∧ i < 800 then nn D k R i / 2 ^ k + 48 else D.d i) = fun i => if i < j + 1 ∧ i < 800 then nn D k R i / 2 ^ k + 48 else D.d i := by
    funext i
    by_cases h2 : i < j ∧ i < 800
    · rw [if_pos h2, if_pos ⟨by omega, h2.2⟩]
    · rw [if_neg h2, if_neg (by omega)]
  unfold rsD
  rw [hb, hf]
theorem steps_eq {D : Dec} {k R J : Nat} (h0 : nn D k R J = 0) (h1 : ∀ j, D.nd - R ≤ j → j < J → nn D k R j ≠ 0) : ∀ F j, J - j ≤ F → D.nd - R ≤ j → j ≤ J → steps k F (nn D k R j) = J - j
  | 0, j, hF, _, hj => by show 0 = _; omega
  | F + 1, j, hF, hjl, hj => by
    rcases Nat.lt_or_ge j J with h | h
    · have e : nn D k R (j + 1) = nn D k R j % 2 ^ k * 10 := by
        show nn D k R j % 2 ^ k * 10 + xd D (R + j) = _
        rw [show xd D (R + j) = 0 from by unfold xd; rw [if_neg (by omega)]]; rfl
      show (if nn D k R j = 0 then 0 else 1 + steps k F (nn D k R j % 2 ^ k * 10)) = _
      rw [if_neg (h1 j hjl h), ← e, steps_eq h0 h1 F (j + 1) (by omega) (by omega) (by omega)]
      omega
    · obtain rfl : j = J := by omega
      show (if nn D k R j = 0 then 0 else _) = _
      rw [if_pos h0]; omega

theorem and_mask (n k : Nat) (hk : k ≤ 60) (hn : n < 18446744073709551616) : bits .and .u64 (n : Int) ((2 ^ k - 1 : Nat) : Int) = ((n % 2 ^ k : Nat) : Int) := by
  have hp : 2 ^ k ≤ 2 ^ 60 := Nat.pow_le_pow_right (by decide) hk
  have hp2 : (2 : Nat) ^ 60 = 1152921504606846976 := by decide
  have h1 : bits .and .u64 (n : Int) ((2 ^ k - 1 : Nat) : Int) = ((BitVec.ofNat 64 n &&& BitVec.ofNat 64 (2 ^ k - 1)).toNat : Int) := by
    refine bits64 .and n (2 ^ k - 1) _ ?_
    unfold bits
    simp only [IntKind.bits]
    rw [ofInt64, ofInt64]; rfl
  rw [h1, BitVec.toNat_and, BitVec.toNat_ofNat, BitVec.toNat_ofNat, Nat.mod_eq_of_lt (by omega : n < 2 ^ 64), Nat.mod_eq_of_lt (by omega : 2 ^ k - 1 < 2 ^ 64), Nat.and_two_pow_sub_one_eq_mod]

set_option maxHeartbeats 1000000 in
theorem rshift_walk (D : Dec) (k R J : Nat) (hk1 : 1 ≤ k) (hk2 : k ≤ 60) (h1 : 1 ≤ D.nd) (hn : D.nd ≤ 800) (hd : DigOk D) (h0 : 49 ≤ D.d 0) (hp1 : -1000000 ≤ D.dp) (hp2 : D.dp ≤ 1000000)
    (hR1 : 1 ≤ R) (hR2 : R ≤ 20) (hRv : 2 ^ k ≤ nv D R) (hRm : ∀ j, j < R → nv D j < 2 ^ k)
    (hJ0 : nn D k R J = 0) (hJ1 : ∀ j, D.nd - R ≤ j → j < J → nn D k R j ≠ 0) (hJ2 : D.nd - R ≤ J) (hJ3 : J ≤ D.nd - R + (k + 1)) (w : World) (E : Nat) (h : DecAt w E D) :
    Calls Tryz.prog 226 #[.pointer (some ⟨E, 0, none⟩), .int .u64 k] w fun e w' => e = .returned (.tuple #[]) ∧ DecAt w' E (trimD { rsD D k R J with nd := min J 800 }) ∧ Kin E w w' := by
  have hnd := h.nd
  have H := Lib.hid h
  have HRM := Lib.hid hRm
  have HD := Lib.hid hd
  have HB := Lib.hid (nv_big hk2 hd hR1 hRm)
  have HNL := Lib.hid (nn_lt hd hR1 hRm)
  have HJ0 := Lib.hid hJ0
  have HJ1 := Lib.hid hJ1
  have hkk : (k : Int) < 64 := by omega
  have hP : 2 ^ k ≤ 1152921504606846976 := Nat.le_trans (Nat.pow_le_pow_right (by decide) hk2) (by decide)
  have HP := Lib.hid hP
  have hP0 : 0 < 2 ^ k := Nat.pow_pos (by decide)
  have HP0 := Lib.hid hP0
  obtain ⟨M, hM⟩ : ∃ M, M = 2 ^ k - 1 := ⟨_, rfl⟩
  have HM := Lib.hid hM
  have e1 : IntKind.u64.wrap (IntKind.u64.wrap (2 ^ k) - 1) = (M : Int) := by
    have e : ((2 : Int) ^ k) = ((2 ^ k : Nat) : Int) := by push_cast; rfl
    rw [e, hM, IntKind.wrap_u64, IntKind.wrap_u64]
    omega
  have EM := Lib.hid e1
  clear h hRm hd hJ0 hJ1 hM e1 hP hP0
  go_enter Tryz.func226, Tryz.ntmps226
  go_upto_block 0 with fail
  go_cut [4, 6] from 12 to 48 (fun r n wx => r = .int .i64 R ∧ n = .int .u64 (nv D R : Nat) ∧ w = wx)
  case first =>
    go_wp2_with fail
    go_loop [4, 6, 7] (fun r n _c => ∃ j : Nat, j ≤ R ∧ j ≤ D.nd ∧ r = .int .i64 j ∧ n = .int .u64 (nv D j : Nat)) (fun r _ _ => R - (RowKit.intOf r).toNat)
    case atStart => exact ⟨0, by omega, by omega, rfl, rfl⟩
    case round =>
      obtain ⟨j, hj, hjn, rfl, rfl⟩ := hrel
      have hj0 : (0 : Int) ≤ j := by omega
      have hbig := HB.out j hj
      by_cases hlt : j < R
      · have hq := shr_yes _ _ (HRM.out j hlt)
        by_cases hjd : j < D.nd
        · have hdg := H.out.dig j (by omega)
          have hdd := HD.out j hjd
          have hjd' : (j : Int) < D.nd := by omega
          have hj8 : (j : Int) < 800 := by omega
          have hb2 := HB.out (j + 1) (by omega)
          have e1 : nv D (j + 1) = nv D j * 10 + (D.d j - 48) := by
            show nv D j * 10 + xd D j = _
            unfold xd; rw [if_pos hjd]
          have e2 : IntKind.u64.wrap (IntKind.u64.wrap (IntKind.u64.wrap (((nv D j : Nat) : Int) * 10) + ((D.d j : Nat) : Int)) - 48) = ((nv D (j + 1) : Nat) : Int) := by
            rw [IntKind.wrap_u64, IntKind.wrap_u64, IntKind.wrap_u64]
            omega
          have E2 := Lib.hid e2
          clear e1 hb2 e2
          go_wp2_with fail
          exact ⟨⟨j + 1, by omega, by omega, by go_num, by rw [E2.out]⟩, by simp [RowKit.intOf]; omega⟩
        · obtain rfl : j = D.nd := by omega
          have hne : (((nv D D.nd : Nat) : Int) == 0) = false := by
            have : 1 ≤ nv D D.nd := by
              obtain ⟨t, ht⟩ : ∃ t, D.nd = t + 1 := ⟨D.nd - 1, by omega⟩
              have h := nv_ge h1 h0 t
              rw [ht]
              have : 0 < 10 ^ t := Nat.pow_pos (by decide)
              omega
            simp; omega
          go_wp2_with fail
          clear hne hq
          go_loop [4, 6] (fun r n => ∃ j : Nat, D.nd ≤ j ∧ j ≤ R ∧ r = .int .i64 j ∧ n = .int .u64 (nv D j : Nat)) (fun r _ => R - (RowKit.intOf r).toNat)
          case atStart => exact ⟨D.nd, Nat.le_refl _, by omega, rfl, rfl⟩
          case round =>
            obtain ⟨j, hjn2, hj2, rfl, rfl⟩ := hrel
            have hj02 : (0 : Int) ≤ j := by omega
            have hbig2 := HB.out j hj2
            by_cases hlt2 : j < R
            · have hq := shr_yes _ _ (HRM.out j hlt2)
              have hb2 := HB.out (j + 1) (by omega)
              have e1 : nv D (j + 1) = nv D j * 10 := by
                show nv D j * 10 + xd D j = _
                unfold xd; rw [if_neg (by omega)]; rfl
              have e2 : IntKind.u64.wrap (((nv D j : Nat) : Int) * 10) = ((nv D (j + 1) : Nat) : Int) := by
                rw [IntKind.wrap_u64]
                omega
              clear e1 hb2
              go_wp2_with fail
              exact ⟨⟨j + 1, by omega, by omega, by go_num, by rfl⟩, by simp [RowKit.intOf]; omega⟩
            · obtain rfl : j = R := by omega
              have hq := shr_no _ _ hRv
              go_wp2_with fail
              go_meet
              exact ⟨rfl, rfl, rfl⟩
      · obtain rfl : j = R := by omega
        have hq := shr_no _ _ hRv
        go_wp2_with fail
        go_meet
        exact ⟨rfl, rfl, rfl⟩
  case rest =>
    obtain ⟨rfl, rfl, rfl⟩ := hcut
    have hdp := H.out.dp
    have hfr := H.out.froz
    have em := EM.out
    go_wp2_with fail
    have hs0 : DecAt (w.setCell ⟨E, 801, none⟩ (.int .i64 (D.dp - ((R : Int) - 1)))) E (rsD D k R 0) := by
      rw [rsD_zero]
      exact H.out.setDp _
    have HS0 := Lib.hid hs0
    have HK0 := Lib.hid (Kin.set E 801 w (.int .i64 (D.dp - ((R : Int) - 1))))
    generalize w.setCell ⟨E, 801, none⟩ (.int .i64 (D.dp - ((R : Int) - 1))) = w1 at *
    clear hs0 hdp hfr em hnd
    go_loopw [4, 5, 6, 9, 10] (fun r v n _c _g wr => ∃ j : Nat, j ≤ D.nd - R ∧ r = .int .i64 (R + j : Nat) ∧ v = .int .i64 j ∧ n = .int .u64 (nn D k R j : Nat) ∧ DecAt wr E (rsD D k R j) ∧ Kin E w wr) (fun _ v _ _ _ _ => D.nd - R - (RowKit.intOf v).toNat)
    case atStart => exact ⟨0, Nat.zero_le _, rfl, rfl, rfl, HS0.out, HK0.out⟩
    case round =>
      obtain ⟨j, hj, rfl, rfl, rfl, hD, hK⟩ := hrel
      have hnd := hD.nd
      have hfr := hD.froz
      have HDj := Lib.hid hD
      have HKj := Lib.hid hK
      have hj0 : (0 : Int) ≤ j := by omega
      have hnl := HNL.out j
      have hp := HP.out
      obtain ⟨y, hy⟩ : ∃ y, y = nn D k R j := ⟨_, rfl⟩
      rw [← hy] at hnl ⊢
      have hy1 : y < 11529215046068469760 := by omega
      have hnd' : wr.cell? ⟨E, 800, none⟩ = some (.int .i64 (D.nd : Nat)) := hnd
      clear hD hK hnd hp
      by_cases hlt : j < D.nd - R
      · have hdg : wr.cell? ⟨E, R + j, none⟩ = some (.int .u8 (D.d (R + j) : Nat)) := by
          have h := HDj.out.dig (R + j) (by omega)
          rw [h]
          show some (Value.int IntKind.u8 ((if R + j < j ∧ R + j < 800 then _ else D.d (R + j) : Nat) : Int)) = _
          rw [if_neg (by omega)]
        have hdd := HD.out (R + j) (by omega)
        have hdw := HDj.out.dig j (by omega)
        obtain ⟨rj, hrj⟩ : ∃ rj, rj = R + j := ⟨_, rfl⟩
        rw [← hrj] at hdg hdd ⊢
        have hr0 : (0 : Int) ≤ rj := by omega
        have hr1 : (rj : Int) < D.nd := by omega
        have hr8 : (rj : Int) < 800 := by omega
        have hj8 : (j : Int) < 800 := by omega
        obtain ⟨q, hq⟩ : ∃ q, q = y / 2 ^ k := ⟨_, rfl⟩
        have hq9 : q ≤ 9 := by
          rw [hq]
          have : y / 2 ^ k < 10 := (Nat.div_lt_iff_lt_mul HP0.out).2 hnl
          omega
        have hq1 : (y : Int) / 2 ^ k = (q : Int) := by rw [hq]; push_cast; rfl
        obtain ⟨m, hm⟩ : ∃ m, m = y % 2 ^ k := ⟨_, rfl⟩
        have hm1 : m < 1152921504606846976 := by
          rw [hm]
          have := Nat.mod_lt y HP0.out
          have := HP.out
          omega
        have hm2 : bits .and .u64 (y : Int) (M : Int) = (m : Int) := by
          rw [HM.out, hm]
          exact and_mask y k hk2 (by omega)
        have hx : nn D k R (j + 1) = m * 10 + (D.d rj - 48) := by
          show nn D k R j % 2 ^ k * 10 + xd D (R + j) = _
          rw [← hy, ← hm, ← hrj]
          unfold xd; rw [if_pos (by omega)]
        have HX := Lib.hid hx
        have HQ := Lib.hid hq
        have HY := Lib.hid hy
        have HRJ := Lib.hid hrj
        obtain ⟨c, hc⟩ : ∃ c, c = D.d rj := ⟨_, rfl⟩
        rw [← hc] at hdg hdd HX
        clear hx hq hy hrj hc hm hnl
        go_wp2_with fail
        have hset := HDj.out.setDig (i := j) (by omega) (q + 48)
        rw [HQ.out, HY.out, rsD_put D k R j (by omega), ← HY.out, ← HQ.out] at hset
        have hrj := HRJ.out
        refine ⟨⟨j + 1, by omega, by rw [hrj]; go_num, by go_num, ?_, hset, HKj.out.trans (Kin.set E j _ _)⟩, by simp [RowKit.intOf]; omega⟩
        rw [HX.out]
        congr 1
        omega
      · have hje : j = D.nd - R := by omega
        have HY := Lib.hid hy
        obtain ⟨rj, hrj⟩ : ∃ rj, rj = R + j := ⟨_, rfl⟩
        rw [← hrj]
        have hr1 : (D.nd : Int) ≤ rj := by omega
        subst hje
        clear hy hrj hlt
        go_wp2_with fail
        clear hr1 hnd'
        have hrel0 : ∃ j : Nat, D.nd - R ≤ j ∧ j ≤ J ∧ Value.int .i64 (D.nd - R : Nat) = .int .i64 (min j 800 : Nat) ∧ Value.int .u64 (y : Nat) = .int .u64 (nn D k R j : Nat) ∧ DecAt wr E (rsD D k R j) ∧ Kin E w wr :=
          ⟨D.nd - R, Nat.le_refl _, hJ2, by rw [Nat.min_eq_left (by omega)], by rw [HY.out], HDj.out, HKj.out⟩
        have HREL := Lib.hid hrel0
        obtain ⟨v0, hv0⟩ : ∃ v0, v0 = D.nd - R := ⟨_, rfl⟩
        rw [← hv0] at HREL ⊢
        clear hrel0 hfr hnl hy1 HDj HKj HY
        go_loopw [5, 6, 11] (fun v n _g wr => ∃ j : Nat, D.nd - R ≤ j ∧ j ≤ J ∧ v = .int .i64 (min j 800 : Nat) ∧ n = .int .u64 (nn D k R j : Nat) ∧ DecAt wr E (rsD D k R j) ∧ Kin E w wr) (fun _ n _ _ => steps k (k + 1) (RowKit.intOf n).toNat)
        case atStart => rw [← hv0]; exact HREL.out
        case round =>
          clear HREL hv0
          obtain ⟨j, hjl, hj, rfl, rfl, hD, hK⟩ := hrel
          have hst := steps_eq HJ0.out HJ1.out (k + 1) j (by omega) hjl hj
          have hfr := hD.froz
          have HDj := Lib.hid hD
          have HKj := Lib.hid hK
          have HST := Lib.hid hst
          have hnl := HNL.out j
          have hp := HP.out
          obtain ⟨y, hy⟩ : ∃ y, y = nn D k R j := ⟨_, rfl⟩
          have HY := Lib.hid hy
          rw [← hy] at hnl HST ⊢
          have hy1 : y < 11529215046068469760 := by omega
          have hnd : wr.cell? ⟨E, 800, none⟩ = some (.int .i64 (D.nd : Nat)) := hD.nd
          have htr := hD.tr
          clear hD hK hp hst
          by_cases hlt : j < J
          · have hne : 0 < y := by rw [hy]; have := HJ1.out j hjl hlt; omega
            have hne' : (0 : Int) < y := by omega
            obtain ⟨q, hq⟩ : ∃ q, q = y / 2 ^ k := ⟨_, rfl⟩
            have hq9 : q ≤ 9 := by
              rw [hq]
              have : y / 2 ^ k < 10 := (Nat.div_lt_iff_lt_mul HP0.out).2 hnl
              omega
            have hq1 : (y : Int) / 2 ^ k = (q : Int) := by rw [hq]; push_cast; rfl
            obtain ⟨m, hm⟩ : ∃ m, m = y % 2 ^ k := ⟨_, rfl⟩
            have hm1 : m < 1152921504606846976 := by
              rw [hm]
              have := Nat.mod_lt y HP0.out
              have := HP.out
              omega
            have hm2 : bits .and .u64 (y : Int) (M : Int) = (m : Int) := by
              rw [HM.out, hm]
              exact and_mask y k hk2 (by omega)
            have hx : nn D k R (j + 1) = m * 10 := by
              show nn D k R j % 2 ^ k * 10 + xd D (R + j) = _
              rw [← hy, ← hm]
              unfold xd; rw [if_neg (by omega)]; rfl
            have hst2 := steps_eq HJ0.out HJ1.out (k + 1) (j + 1) (by omega) (by omega) (by omega)
            have HX := Lib.hid hx
            have HQ := Lib.hid hq
            rw [hx] at hst2
            have HST2 := Lib.hid hst2
            clear hx hq hy hm hnl hst2
            by_cases hj8 : j < 800
            · have hdw := HDj.out.dig j (by omega)
              have hmn : min j 800 = j := by omega
              rw [hmn]
              have hj8' : (j : Int) < 800 := by omega
              have hj0 : (0 : Int) ≤ j := by omega
              clear hmn
              go_wp2_with fail
              have hset := HDj.out.setDig (i := j) (by omega) (q + 48)
              rw [HQ.out, HY.out, rsD_put D k R j (by omega), ← HY.out, ← HQ.out] at hset
              refine ⟨⟨j + 1, by omega, by omega, ?_, ?_, hset, HKj.out.trans (Kin.set E j _ _)⟩, ?_⟩
              · rw [Nat.min_eq_left (by omega)]; go_num
              · rw [HX.out]; go_num
              · show steps k (k + 1) (RowKit.intOf (.int .u64 ((m : Int) * 10))).toNat < steps k (k + 1) (RowKit.intOf (.int .u64 (y : Nat))).toNat
                rw [show (RowKit.intOf (.int .u64 ((m : Int) * 10))).toNat = m * 10 from by simp [RowKit.intOf]; omega, show (RowKit.intOf (.int .u64 (y : Nat))).toNat = y from by simp [RowKit.intOf], HST.out, HST2.out]
                omega
            · have hmn : min j 800 = 800 := by omega
              rw [hmn]
              have htu : tU D k R (j + 1) = (tU D k R j || decide (0 < q)) := by
                show (tU D k R j || (decide (800 ≤ j) && decide (0 < nn D k R j / 2 ^ k))) = _
                rw [← HY.out, ← HQ.out, show decide (800 ≤ j) = true from by simp; omega, Bool.true_and]
              have HTU := Lib.hid htu
              clear hmn htu
              by_cases hq0 : 0 < q
              · have hq0' : (0 : Int) < q := by omega
                go_wp2_with fail
                have hset := HDj.out.setTr true
                rw [rsD_big D k R j (by omega) true (by rw [HTU.out]; simp [hq0])] at hset
                refine ⟨⟨j + 1, by omega, by omega, ?_, ?_, hset, HKj.out.trans (Kin.set E 803 _ _)⟩, ?_⟩
                · rw [Nat.min_eq_right (by omega)]
                · rw [HX.out]; go_num
                · show steps k (k + 1) (RowKit.intOf (.int .u64 ((m : Int) * 10))).toNat < steps k (k + 1) (RowKit.intOf (.int .u64 (y : Nat))).toNat
                  rw [show (RowKit.intOf (.int .u64 ((m : Int) * 10))).toNat = m * 10 from by simp [RowKit.intOf]; omega, show (RowKit.intOf (.int .u64 (y : Nat))).toNat = y from by simp [RowKit.intOf], HST.out, HST2.out]
                  omega
              · have hq0' : (q : Int) ≤ 0 := by omega
                have htt : tU D k R j = (rsD D k R j).tr := rfl
                have HTT := Lib.hid htt
                clear htt
                go_wp2_with fail
                have hset := HDj.out
                have e := rsD_big D k R j (by omega) (tU D k R j) (by rw [HTU.out]; simp [hq0])
                refine ⟨⟨j + 1, by omega, by omega, ?_, ?_, by rw [← e]; exact hset, HKj.out⟩, ?_⟩
                · rw [Nat.min_eq_right (by omega)]
                · rw [HX.out]; go_num
                · show steps k (k + 1) (RowKit.intOf (.int .u64 ((m : Int) * 10))).toNat < steps k (k + 1) (RowKit.intOf (.int .u64 (y : Nat))).toNat
                  rw [show (RowKit.intOf (.int .u64 ((m : Int) * 10))).toNat = m * 10 from by simp [RowKit.intOf]; omega, show (RowKit.intOf (.int .u64 (y : Nat))).toNat = y from by simp [RowKit.intOf], HST.out, HST2.out]
                  omega
          · obtain rfl : j = J := by omega
            have hy0 : y = 0 := by rw [hy, HJ0.out]
            obtain ⟨W, hW⟩ : ∃ W, W = min j 800 := ⟨_, rfl⟩
            have HW := Lib.hid hW
            rw [← hW]
            have hset := HDj.out.setNd W
            have hset2 : DecAt (wr.setCell ⟨E, 800, none⟩ (.int .i64 (W : Nat))) E { rsD D k R j with nd := min j 800 } := by rw [← hW]; exact hset
            have HS := Lib.hid hset2
            have HTM := Lib.hid (trim_dec E { rsD D k R j with nd := min j 800 } (show min j 800 ≤ 800 by omega))
            clear hset hset2 hW hy hnl HST
            subst hy0
            go_wp2_with (go_at_call 224; refine (HTM.out _ HS.out).mono ?_; rintro e w2 ⟨rfl, hD2, hK2⟩; have HD2 := Lib.hid hD2; have HK2 := Lib.hid hK2; clear hD2 hK2)
            go_end0
            exact ⟨rfl, HD2.out, HKj.out.trans ((Kin.set E 800 _ _).trans HK2.out)⟩

theorem trim_first {D : Dec} (h1 : 1 ≤ D.nd) (h0 : 49 ≤ D.d 0) : 1 ≤ (trimD D).nd ∧ (trimD D).nd ≤ D.nd ∧ (trimD D).dp = D.dp ∧ (trimD D).d = D.d ∧ (trimD D).neg = D.neg := by
  have h : ∀ k, 1 ≤ k → 1 ≤ trimTo D.d k := by
    intro k
    induction k with
    | zero => omega
    | succ k ih =>
      intro _
      unfold trimTo
      split
      · rename_i h
        cases k with
        | zero => omega
        | succ k => exact ih (by omega)
      · omega
  have h2 := h D.nd h1
  refine ⟨h2, trimTo_le _ _, ?_, rfl, rfl⟩
  show (if trimTo D.d D.nd = 0 then 0 else D.dp) = D.dp
  rw [if_neg (by omega)]

/-- a decimal that is not 0, in form. -/
structure Fit (D : Dec) : Prop where
  n1 : 1 ≤ D.nd
  n8 : D.nd ≤ 800
  dig : DigOk D
  d0 : 49 ≤ D.d 0

theorem rshift_ex (D : Dec) (k : Nat) (hk1 : 1 ≤ k) (hk2 : k ≤ 60) (hf : Fit D) (hp1 : -1000000 ≤ D.dp) (hp2 : D.dp ≤ 1000000) :
    ∃ (D' : Dec) (R : Nat), 1 ≤ R ∧ R ≤ 20 ∧ (D.d 0 < 48 + 2 ^ k → 2 ≤ R) ∧ (R = 1 → D'.d 0 = 48 + (D.d 0 - 48) / 2 ^ k) ∧ Fit D' ∧ D'.dp = D.dp - ((R : Int) - 1) ∧ D'.neg = D.neg ∧
      ∀ (w : World) (E : Nat), DecAt w E D → Calls Tryz.prog 226 #[.pointer (some ⟨E, 0, none⟩), .int .u64 k] w fun e w' => e = .returned (.tuple #[]) ∧ DecAt w' E D' ∧ Kin E w w' := by
  obtain ⟨n1, n8, hd, d0⟩ := hf
  obtain ⟨R, hR1, hR2, hRv, hRm⟩ := nv_R hk2 n1 d0
  obtain ⟨i, hi, hi0, him⟩ := nn_J (D := D) (k := k) (R := R)
  have hP0 : 0 < 2 ^ k := Nat.pow_pos (by decide)
  have hfirst : 1 ≤ nv D R / 2 ^ k := Nat.div_pos hRv hP0
  have hJpos : 1 ≤ D.nd - R + i := by
    rcases Nat.eq_zero_or_pos (D.nd - R + i) with h | h
    · rw [h] at hi0
      have : nv D R = 0 := hi0
      omega
    · exact h
  have hle : ∀ j, nn D k R j / 2 ^ k ≤ 9 := fun j => by
    have : nn D k R j / 2 ^ k < 10 := (Nat.div_lt_iff_lt_mul hP0).2 (nn_lt hd hR1 hRm j)
    omega
  obtain ⟨J, hJ⟩ : ∃ J, J = D.nd - R + i := ⟨_, rfl⟩
  rw [← hJ] at hi0 hJpos
  have hJ1 : ∀ j, D.nd - R ≤ j → j < J → nn D k R j ≠ 0 := fun j h1 h2 => by
    have := him (j - (D.nd - R)) (by omega)
    rw [show D.nd - R + (j - (D.nd - R)) = j from by omega] at this
    exact this
  have e0 : (rsD D k R J).d 0 = nv D R / 2 ^ k + 48 := by
    show (if 0 < J ∧ 0 < 800 then nn D k R 0 / 2 ^ k + 48 else D.d 0) = _
    rw [if_pos ⟨by omega, by omega⟩]; rfl
  obtain ⟨t1, t2, t3, t4, t5⟩ := trim_first (D := { rsD D k R J with nd := min J 800 }) (show 1 ≤ min J 800 by omega) (show 49 ≤ (rsD D k R J).d 0 by rw [e0]; omega)
  refine ⟨trimD { rsD D k R J with nd := min J 800 }, R, hR1, hR2, ?_, ?_, ⟨t1, ?_, ?_, ?_⟩, t3, t5, fun w E h => rshift_walk D k R J hk1 hk2 n1 n8 hd d0 hp1 hp2 hR1 hR2 hRv hRm hi0 hJ1 (by omega) (by omega) w E h⟩
  · intro h
    rcases Nat.lt_or_ge 1 R with h3 | h3
    · exact h3
    · obtain rfl : R = 1 := by omega
      have : nv D 1 = D.d 0 - 48 := by show 0 * 10 + xd D 0 = _; unfold xd; rw [if_pos (by omega)]; omega
      omega
  · intro h
    subst h
    rw [t4]
    show (rsD D k 1 J).d 0 = _
    rw [e0]
    have : nv D 1 = D.d 0 - 48 := by show 0 * 10 + xd D 0 = _; unfold xd; rw [if_pos (by omega)]; omega
    rw [this]; omega
  · have : (trimD { rsD D k R J with nd := min J 800 }).nd ≤ min J 800 := t2
    omega
  · intro j hj
    have hj2 : j < min J 800 := Nat.lt_of_lt_of_le hj t2
    rw [t4]
    show 48 ≤ (if j < J ∧ j < 800 then nn D k R j / 2 ^ k + 48 else D.d j) ∧ (if j < J ∧ j < 800 then nn D k R j / 2 ^ k + 48 else D.d j) ≤ 57
    rw [if_pos ⟨by omega, by omega⟩]
    exact ⟨Nat.le_add_left _ _, Nat.add_le_add_right (hle j) 48⟩
  · rw [t4]
    show 49 ≤ (rsD D k R J).d 0
    rw [e0]; omega
end Go.Proofs.YtlmogijkkhdogaaGreatDoor
