/- strconv's floatBits: the shifts that it makes end (no walk). -/
import Derived.Test.YtlmogijkkhdogaaGreatDoorHh
import Derived.WalkMore
import Derived.ScopeJumps
namespace Go.Proofs.YtlmogijkkhdogaaGreatDoor
open Go.RowKit
set_option maxRecDepth 100000

/-- a shift to the left, to the right, takes D to D'. -/
def SL (k : Nat) (D D' : Dec) : Prop :=
  ∀ (w : World) (E B : Nat), B ≤ E → Slow B w → DecAt w E D → Calls Tryz.prog 173 #[.pointer (some ⟨E, 0, none⟩), .int .i64 k] w fun e w' => e = .returned (.tuple #[]) ∧ DecAt w' E D' ∧ Kin E w w'
def SR (k : Nat) (D D' : Dec) : Prop :=
  ∀ (w : World) (E : Nat), DecAt w E D → Calls Tryz.prog 173 #[.pointer (some ⟨E, 0, none⟩), .int .i64 (-(k : Int))] w fun e w' => e = .returned (.tuple #[]) ∧ DecAt w' E D' ∧ Kin E w w'

def pw (n : Nat) : Nat := powT.getD n 27
theorem pw_range : ∀ n : Nat, 1 ≤ pw n ∧ pw n ≤ 27
  | 0 => by decide
  | 1 => by decide
  | 2 => by decide
  | 3 => by decide
  | 4 => by decide
  | 5 => by decide
  | 6 => by decide
  | 7 => by decide
  | 8 => by decide
  | n + 9 => by simp [pw, powT]
theorem pw_three : ∀ n : Nat, 1 ≤ n → 3 ≤ pw n
  | 0, h => absurd h (by decide)
  | 1, _ => by decide
  | 2, _ => by decide
  | 3, _ => by decide
  | 4, _ => by decide
  | 5, _ => by decide
  | 6, _ => by decide
  | 7, _ => by decide
  | 8, _ => by decide
  | n + 9, _ => by simp [pw, powT]

def muD (D : Dec) : Nat := 2 * D.dp.toNat + if 56 ≤ D.d 0 then 1 else 0
def muU (D : Dec) : Nat := 10 * (-D.dp).toNat + (57 - D.d 0)
def muG (D : Dec) : Nat := if D.dp < 0 ∨ (D.dp = 0 ∧ D.d 0 < 53) then muU D + 1 else 0
/-- the first loop: right shifts while the point lies behind a figure. -/
structure Down (D D1 : Dec) (J : Nat) (s : Nat → Dec) (x : Nat → Int) : Prop where
  s0 : s 0 = D
  x0 : x 0 = 0
  step : ∀ j, j < J → 0 < (s j).dp ∧ (s j).dp ≤ 310 ∧ SR (pw (s j).dp.toNat) (s j) (s (j + 1)) ∧ muD (s (j + 1)) < muD (s j) ∧ x (j + 1) = x j + pw (s j).dp.toNat
  last : s J = D1
  stop : D1.dp ≤ 0
  lo : -330 ≤ D1.dp
  fit : Fit D1
  neg : D1.neg = D.neg
  xr : ∀ j, j ≤ J → 0 ≤ x j ∧ x j ≤ 27 * j
  J1 : J ≤ 700
theorem down_ex : ∀ (μ : Nat) (D : Dec), muD D ≤ μ → μ ≤ 700 → Fit D → -330 ≤ D.dp → D.dp ≤ 310 → ∃ D1 J s x, Down D D1 J s x ∧ J ≤ μ
  | μ, D, hμ, hb, hf, hp1, hp2 => by
    by_cases hp : D.dp ≤ 0
    · exact ⟨D, 0, fun _ => D, fun _ => 0, ⟨rfl, rfl, fun j h => absurd h (by omega), rfl, hp, hp1, hf, rfl, fun j h => ⟨Int.le_refl _, by show (0 : Int) ≤ 27 * (j : Nat); omega⟩, by omega⟩, by omega⟩
    · have hpw := pw_range D.dp.toNat
      have hp3 := pw_three D.dp.toNat (by omega)
      obtain ⟨D2, hR, hf2, hd1, hd2, hn2, hs⟩ := shiftR_ex D (pw D.dp.toNat) hpw.1 (by omega) hf (by omega) (by omega)
      obtain ⟨R, hR1, hR2, hR3, hR4⟩ := hR (by omega)
      have hpow : 8 ≤ 2 ^ pw D.dp.toNat := by
        have : (2 : Nat) ^ 3 ≤ 2 ^ pw D.dp.toNat := Nat.pow_le_pow_right (by decide) hp3
        omega
      have hd57 := hf.dig 0 (by have := hf.n1; omega)
      have hmu : muD D2 < muD D := by
        unfold muD
        rcases Nat.lt_or_ge 1 R with h | h
        · split <;> split <;> omega
        · obtain rfl : R = 1 := by omega
          have h1 : 48 + 2 ^ pw D.dp.toNat ≤ D.d 0 := by
            rcases Nat.lt_or_ge (D.d 0) (48 + 2 ^ pw D.dp.toNat) with h | h
            · exact absurd (hR2 h) (by decide)
            · exact h
          have h2 := hR3 rfl
          have h3 : (D.d 0 - 48) / 2 ^ pw D.dp.toNat ≤ 1 := by
            have : (D.d 0 - 48) / 2 ^ pw D.dp.toNat < 2 := (Nat.div_lt_iff_lt_mul (by omega)).2 (by omega)
            omega
          rw [if_neg (by omega), if_pos (by omega)]
          omega
      cases μ with
      | zero => omega
      | succ μ =>
        obtain ⟨D1, J, s, x, hD, hJ⟩ := down_ex μ D2 (by omega) (by omega) hf2 (by omega) (by omega)
        refine ⟨D1, J + 1, fun j => match j with | 0 => D | j + 1 => s j, fun j => match j with | 0 => 0 | j + 1 => x j + pw D.dp.toNat, ⟨rfl, rfl, ?_, hD.last, hD.stop, hD.lo, hD.fit, by rw [hD.neg, hn2], ?_, by omega⟩, by omega⟩
        · intro j hj
          cases j with
          | zero => exact ⟨by show 0 < D.dp; omega, hp2, by show SR _ D (s 0); rw [hD.s0]; exact hs, by show muD (s 0) < muD D; rw [hD.s0]; exact hmu, by show x 0 + (pw D.dp.toNat : Int) = 0 + _; rw [hD.x0]⟩
          | succ j =>
            obtain ⟨a, b, c, m, d⟩ := hD.step j (by omega)
            exact ⟨a, b, c, m, by show x (j + 1) + (pw D.dp.toNat : Int) = x j + (pw D.dp.toNat : Int) + (pw (s j).dp.toNat : Int); rw [d]; omega⟩
        · intro j hj
          cases j with
          | zero => exact ⟨Int.le_refl _, by simp⟩
          | succ j =>
            have := hD.xr j (by omega)
            exact ⟨by show 0 ≤ x j + (pw D.dp.toNat : Int); omega, by show x j + (pw D.dp.toNat : Int) ≤ 27 * ((j + 1 : Nat) : Int); push_cast; omega⟩

/-- the second loop: left shifts till the first figure is five or more, right behind the point. -/
def goesL (D : Dec) : Prop := D.dp < 0 ∨ (D.dp = 0 ∧ D.d 0 < 53)
structure Up (D D1 : Dec) (J : Nat) (s : Nat → Dec) (x : Nat → Int) : Prop where
  s0 : s 0 = D
  x0 : x 0 = 0
  step : ∀ j, j < J → goesL (s j) ∧ -400 ≤ (s j).dp ∧ Fit (s j) ∧ SL (pw (-(s j).dp).toNat) (s j) (s (j + 1)) ∧ muG (s (j + 1)) < muG (s j) ∧ x (j + 1) = x j - pw (-(s j).dp).toNat
  last : s J = D1
  stop : ¬ goesL D1
  hi : D1.dp ≤ 100
  fit : Fit D1
  neg : D1.neg = D.neg
  xr : ∀ j, j ≤ J → x j ≤ 0 ∧ -27 * (j : Int) ≤ x j
  J1 : J ≤ 3500
theorem up_ex : ∀ (μ : Nat) (D : Dec), muU D ≤ μ → μ ≤ 3500 → Fit D → -345 ≤ D.dp → D.dp ≤ 100 → ∃ D1 J s x, Up D D1 J s x ∧ J ≤ μ
  | μ, D, hμ, hb, hf, hp1, hp2 => by
    by_cases hp : goesL D
    · have hpw := pw_range (-D.dp).toNat
      obtain ⟨D2, Δ, hΔ, hΔ0, hf2, hdp, hn2, hs⟩ := shiftL_ex D (pw (-D.dp).toNat) hpw.1 (by omega) hf (by omega) (by omega)
      have hd57 := hf.dig 0 (by have := hf.n1; omega)
      have hd572 := hf2.dig 0 (by have := hf2.n1; omega)
      have h0 := hf.d0
      have h02 := hf2.d0
      have hle : D.dp ≤ 0 := by unfold goesL at hp; omega
      have hmu : muU D2 < muU D ∨ 0 < D2.dp := by
        unfold muU
        rcases Nat.eq_zero_or_pos Δ with h | h
        · left
          have := hΔ0 h
          omega
        · omega
      have hmg : muG D2 < muG D := by
        unfold muG
        rw [if_pos (show D.dp < 0 ∨ (D.dp = 0 ∧ D.d 0 < 53) from hp)]
        split <;> omega
      rcases hmu with hmu | hmu
      · cases μ with
        | zero => omega
        | succ μ =>
          obtain ⟨D1, J, s, x, hD, hJ⟩ := up_ex μ D2 (by omega) (by omega) hf2 (by omega) (by omega)
          refine ⟨D1, J + 1, fun j => match j with | 0 => D | j + 1 => s j, fun j => match j with | 0 => 0 | j + 1 => x j - pw (-D.dp).toNat, ⟨rfl, rfl, ?_, hD.last, hD.stop, hD.hi, hD.fit, by rw [hD.neg, hn2], ?_, by omega⟩, by omega⟩
          · intro j hj
            cases j with
            | zero => exact ⟨hp, by show -400 ≤ D.dp; omega, hf, by show SL _ D (s 0); rw [hD.s0]; exact hs, by show muG (s 0) < muG D; rw [hD.s0]; exact hmg, by show x 0 - (pw (-D.dp).toNat : Int) = 0 - _; rw [hD.x0]⟩
            | succ j =>
              obtain ⟨a, b, c, d, m, e⟩ := hD.step j (by omega)
              exact ⟨a, b, c, d, m, by show x (j + 1) - (pw (-D.dp).toNat : Int) = x j - (pw (-D.dp).toNat : Int) - (pw (-(s j).dp).toNat : Int); rw [e]; omega⟩
          · intro j hj
            cases j with
            | zero => exact ⟨Int.le_refl _, by simp⟩
            | succ j =>
              have := hD.xr j (by omega)
              exact ⟨by show x j - (pw (-D.dp).toNat : Int) ≤ 0; omega, by show -27 * ((j + 1 : Nat) : Int) ≤ x j - (pw (-D.dp).toNat : Int); push_cast; omega⟩
      · have hJ1 : 1 ≤ μ := by
          have : 1 ≤ muU D := by unfold muU; unfold goesL at hp; omega
          omega
        have hstop : ¬ goesL D2 := by unfold goesL; omega
        refine ⟨D2, 1, fun j => match j with | 0 => D | _ + 1 => D2, fun j => match j with | 0 => 0 | _ + 1 => - pw (-D.dp).toNat, ⟨rfl, rfl, ?_, rfl, hstop, by omega, hf2, hn2, ?_, by omega⟩, hJ1⟩
        · intro j hj
          obtain rfl : j = 0 := by omega
          exact ⟨hp, by show -400 ≤ D.dp; omega, hf, hs, hmg, by show (-(pw (-D.dp).toNat : Int)) = 0 - (pw (-D.dp).toNat : Int); omega⟩
        · intro j hj
          match j with
          | 0 => exact ⟨Int.le_refl _, by simp⟩
          | 1 => exact ⟨by show (-(pw (-D.dp).toNat : Int)) ≤ 0; omega, by show -27 * ((1 : Nat) : Int) ≤ (-(pw (-D.dp).toNat : Int)); omega⟩
          | j + 2 => omega
    · exact ⟨D, 0, fun _ => D, fun _ => 0, ⟨rfl, rfl, fun j h => absurd h (by omega), rfl, hp, hp2, hf, rfl, fun j h => ⟨Int.le_refl _, by show -27 * ((j : Nat) : Int) ≤ 0; omega⟩, by omega⟩, by omega⟩

def wdp (E : Nat) (w : World) : Int := match w.cell? ⟨E, 801, none⟩ with | some u => RowKit.intOf u | none => 0
def wd0 (E : Nat) (w : World) : Nat := match w.cell? ⟨E, 0, none⟩ with | some u => (RowKit.intOf u).toNat | none => 0
theorem wdp_of {E : Nat} {w : World} {D : Dec} (h : DecAt w E D) : wdp E w = D.dp := by unfold wdp; rw [h.dp]; rfl
theorem wd0_of {E : Nat} {w : World} {D : Dec} (h : DecAt w E D) : wd0 E w = D.d 0 := by unfold wd0; rw [h.dig 0 (by decide)]; simp [RowKit.intOf]
def muDw (E : Nat) (w : World) : Nat := 2 * (wdp E w).toNat + if 56 ≤ wd0 E w then 1 else 0
def muGw (E : Nat) (w : World) : Nat := if wdp E w < 0 ∨ (wdp E w = 0 ∧ wd0 E w < 53) then 10 * (-(wdp E w)).toNat + (57 - wd0 E w) + 1 else 0
theorem muDw_of {E : Nat} {w : World} {D : Dec} (h : DecAt w E D) : muDw E w = muD D := by unfold muDw muD; rw [wdp_of h, wd0_of h]
theorem muGw_of {E : Nat} {w : World} {D : Dec} (h : DecAt w E D) : muGw E w = muG D := by unfold muGw muG muU; rw [wdp_of h, wd0_of h]

/-- what stands behind a goto, at each of two labels. -/
def hopP (P : Program) (r0 r1 : Code) (Q : Exit → Act → World → Prop) : Exit → Act → World → Prop
  | .goto l, a, w => (l = 0 ∧ r0.wp P (Exit.noGoto Q) a w) ∨ (l = 1 ∧ r1.wp P (Exit.noGoto Q) a w)
  | _, _, _ => False
theorem hop_goto0 {P : Program} {r0 r1 : Code} {Q : Exit → Act → World → Prop} {a : Act} {w : World} (h : r0.wp P (Exit.noGoto Q) a w) : hopP P r0 r1 Q (.goto 0) a w := Or.inl ⟨rfl, h⟩
theorem hop_goto1 {P : Program} {r0 r1 : Code} {Q : Exit → Act → World → Prop} {a : Act} {w : World} (h : r1.wp P (Exit.noGoto Q) a w) : hopP P r0 r1 Q (.goto 1) a w := Or.inr ⟨rfl, h⟩
theorem wp_scope_hop {P : Program} {Q : Exit → Act → World → Prop} {a : Act} {w : World} {c r0 r1 : Code} (h0 : findLabel c 0 = some r0) (h1 : findLabel c 1 = some r1)
    (h : c.wp P (hopP P r0 r1 Q) a w) : (Code.scope c).wp P Q a w := by
  intro b k cs
  have key : ∀ (l : Nat) (r : Code), findLabel c l = some r → ∀ (a : Act) (w : World), r.wp P (Exit.noGoto Q) a w → ∃ e a' w', Q e a' w' ∧ Arrives P (lone (b.at a (.code r :: .inScope c :: k)) cs w) b k cs e a' w' := by
    intro l r hf a w hr
    obtain ⟨e, a₁, w₁, hq, harr⟩ := hr b (.inScope c :: k) cs
    cases e with
    | normal => exact ⟨.normal, a₁, w₁, hq, Steps.trans harr (.one step_inScope)⟩
    | exit id => exact ⟨.exit id, a₁, w₁, hq, fun k' hk => harr k' (by simp [exitTo, hk])⟩
    | goto l' => exact hq.elim
    | ret => exact ⟨_, a₁, w₁, hq, harr⟩
    | panic ch => exact ⟨_, a₁, w₁, hq, harr⟩
    | outgrown => exact ⟨_, a₁, w₁, hq, harr⟩
  obtain ⟨e, a₁, w₁, hq, harr⟩ := h b (.inScope c :: k) cs
  cases e with
  | goto l =>
    rcases hq with ⟨rfl, hr⟩ | ⟨rfl, hr⟩
    · obtain ⟨e₂, a₂, w₂, hq₂, harr₂⟩ := key 0 r0 h0 a₁ w₁ hr
      have hg : gotoIn 0 (.inScope c :: k) = some (.code r0 :: .inScope c :: k) := by simp [gotoIn, h0]
      exact ⟨e₂, a₂, w₂, hq₂, .of_steps (.head step_scope (harr _ hg)) harr₂⟩
    · obtain ⟨e₂, a₂, w₂, hq₂, harr₂⟩ := key 1 r1 h1 a₁ w₁ hr
      have hg : gotoIn 1 (.inScope c :: k) = some (.code r1 :: .inScope c :: k) := by simp [gotoIn, h1]
      exact ⟨e₂, a₂, w₂, hq₂, .of_steps (.head step_scope (harr _ hg)) harr₂⟩
  | normal => exact hq.elim
  | exit id => exact hq.elim
  | ret => exact hq.elim
  | panic ch => exact hq.elim
  | outgrown => exact hq.elim
end Go.Proofs.YtlmogijkkhdogaaGreatDoor
