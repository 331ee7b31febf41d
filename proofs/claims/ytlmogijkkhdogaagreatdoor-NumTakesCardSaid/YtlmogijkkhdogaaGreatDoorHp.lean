/- strconv's atof64exact: a float and a Bool that hang on the arguments alone. -/
import Derived.Test.YtlmogijkkhdogaaGreatDoorHm
import Derived.Test.YtlmogijkkhdogaaGreatDoorHg
namespace Go.Proofs.YtlmogijkkhdogaaGreatDoor
open Go.RowKit
set_option maxRecDepth 100000

def fp10 : List Nat := [4607182418800017408, 4621819117588971520, 4636737291354636288, 4652007308841189376, 4666723172467343360, 4681608360884174848, 4696837146684686336, 4711630319722168320, 4726483295884279808, 4741671816366391296, 4756540486875873280, 4771362005757984768, 4786511204640096256, 4801453603149578240, 4816244402031689728, 4831355200913801216, 4846369599423283200, 4861130398305394688, 4876203697187506176, 4891288408196988160, 4906019910204099648, 4921056587992461136, 4936209963552724370]
def fp (i : Nat) : Nat := fp10.getD i 0
theorem fp10_ok : (List.range 23).all (fun i => fgood (fp i)) = true := by kernel_rfl
theorem fp_ok {i : Nat} (h : i ≤ 22) : fgood (fp i) = true := List.all_eq_true.1 fp10_ok i (List.mem_range.2 (by omega))
/-- the floats' powers of ten lie below block B. -/
def Pow10F (B : Nat) (w : World) : Prop := ∃ b o cap : Nat, b < B ∧ w.cell? ⟨13, 0, none⟩ = some (.slice (some ⟨b, o, none⟩) 23 cap) ∧ ∀ i, i ≤ 22 → w.cell? ⟨b, o + i, none⟩ = some (.float .f64 (fp i))
theorem Pow10F.below {B : Nat} {w w' : World} (h : Pow10F B w) (h17 : 14 ≤ B) (hb : Below B w w') : Pow10F B w' := by
  obtain ⟨b, o, c, h1, h2, h3⟩ := h
  refine ⟨b, o, c, h1, ((bcell hb).1 _ _ (by omega)).trans h2, fun i hi => ((bcell hb).1 _ _ h1).trans (h3 i hi)⟩

theorem run_neg (x : Nat) (w : World) : (Op.unary .neg (.float .f64 x)).run Tryz.prog w = .ok (.float .f64 (Op.negFloat .f64 x)) w := rfl
attribute [local go_sem] run_neg
theorem neg_ok {x : Nat} (hx : x < 18446744073709551616) (hn : fnan x = false) : Op.negFloat .f64 x < 18446744073709551616 ∧ fnan (Op.negFloat .f64 x) = false := by
  have e : Op.negFloat .f64 x = x ^^^ 2 ^ 63 := rfl
  rw [e]
  refine ⟨Nat.xor_lt_two_pow (n := 64) hx (by decide), ?_⟩
  have e2 : frung (x ^^^ 2 ^ 63) = frung x := by
    show (x ^^^ 2 ^ 63) % 2 ^ 63 = x % 2 ^ 63
    rw [Nat.xor_mod_two_pow, Nat.mod_self, Nat.xor_zero]
  unfold fnan at hn ⊢
  rw [e2]; exact hn

set_option maxHeartbeats 1600000 in
theorem exact_ex (m : Nat) (e : Int) (b : Bool) (hm : m < 18446744073709551616) (h1 : -2000 ≤ e) (h2 : e ≤ 2000) :
    ∃ (v : Nat) (ok : Bool), v < 18446744073709551616 ∧ ∀ (w : World) (B : Nat), Slow B w → Pow10F B w → Calls Tryz.prog 241 #[.int .u64 m, .int .i64 e, .bool b] w fun r w' => r = .returned (.tuple #[.float .f64 v, .bool ok]) ∧ w = w' := by
  obtain ⟨q, hq⟩ : ∃ q, q = m / 4503599627370496 := ⟨_, rfl⟩
  have hq1 : (m : Int) / 4503599627370496 = (q : Int) := by omega
  by_cases h0 : q = 0
  · obtain ⟨f0, hf0⟩ : ∃ f0, floatOfInt .f64 (m : Int) = f0 := ⟨_, rfl⟩
    obtain ⟨a1, a2⟩ := ofInt_ok (m : Int)
    rw [hf0] at a1 a2
    obtain ⟨f1, hf1⟩ : ∃ f1, Op.negFloat .f64 f0 = f1 := ⟨_, rfl⟩
    obtain ⟨c1, c2⟩ := neg_ok a1 a2
    rw [hf1] at c1 c2
    obtain ⟨f, k1, k2, k3, k4⟩ : ∃ f, f < 18446744073709551616 ∧ fnan f = false ∧ (b = false → f0 = f) ∧ (b = true → f1 = f) := by
      cases b
      · exact ⟨f0, a1, a2, fun _ => rfl, by simp⟩
      · exact ⟨f1, c1, c2, by simp, fun _ => rfl⟩
    have hq2 : ((q : Int) != 0) = false := by rw [h0]; rfl
    clear c1 c2 a1 a2 hq h0
    by_cases e0 : e = 0
    · subst e0
      refine ⟨f, true, k1, fun w B hs hp => ?_⟩
      have i0 := hs.inf0
      clear hs hp
      cases b
      · obtain rfl := k3 rfl
        go_enter Tryz.func241, Tryz.ntmps241
        go_wp2_with (fail)
        refine bodyPost_ret (v := .tuple #[.float .f64 f0, .bool true]) (by simp [results, Tryz.results241, go_sem]) rfl ?_
        exact ⟨rfl, rfl⟩
      · obtain rfl := k4 rfl
        go_enter Tryz.func241, Tryz.ntmps241
        go_wp2_with (fail)
        refine bodyPost_ret (v := .tuple #[.float .f64 f1, .bool true]) (by simp [results, Tryz.results241, go_sem]) rfl ?_
        exact ⟨rfl, rfl⟩
    · by_cases e1 : 0 < e ∧ e ≤ 37
      · obtain ⟨i, rfl⟩ : ∃ i : Nat, e = (i : Int) := ⟨e.toNat, by omega⟩
        have n0 : ((i : Int) == 0) = false := by simp; omega
        have n1 : (0 : Int) < i := e1.1
        have n2 : (i : Int) ≤ 37 := e1.2
        have n3 : (0 : Int) ≤ i := by omega
        by_cases h22 : i ≤ 22
        · obtain ⟨r, hr, _, hmul⟩ := mul_ex k2 (fp_ok h22)
          have hop : ∀ t w, (binOp .mul t (.float .f64 f) (.float .f64 (fp i))).run Tryz.prog w = .ok (.float .f64 r) w := fun t w => run_float_arith w .mul t .f64 f (fp i) r hmul
          obtain ⟨c1, hc1⟩ : ∃ c1, (FloatKind.f64.format.order f 4831355200913801216 == some .gt) = c1 := ⟨_, rfl⟩
          obtain ⟨c2, hc2⟩ : ∃ c2, (FloatKind.f64.format.order f 14054727237768577024 == some .lt) = c2 := ⟨_, rfl⟩
          have n4 : (i : Int) ≤ 22 := by omega
          have n5 : (i : Int) < 23 := by omega
          clear e0 e1 hmul k2
          cases c1
          · cases c2
            · refine ⟨r, true, hr, fun w B hs hp => ?_⟩
              have i0 := hs.inf0
              obtain ⟨pb, po, pc, hpl, hps, hpv⟩ := hp
              have g0 := hpv i h22
              clear hpv
              clear hs
              cases b
              · obtain rfl := k3 rfl
                go_enter Tryz.func241, Tryz.ntmps241
                go_wp2_with (simp only [hop])
                refine bodyPost_ret (v := .tuple #[.float .f64 r, .bool true]) (by simp [results, Tryz.results241, go_sem]) rfl ?_
                exact ⟨rfl, rfl⟩
              · obtain rfl := k4 rfl
                go_enter Tryz.func241, Tryz.ntmps241
                go_wp2_with (simp only [hop])
                refine bodyPost_ret (v := .tuple #[.float .f64 r, .bool true]) (by simp [results, Tryz.results241, go_sem]) rfl ?_
                exact ⟨rfl, rfl⟩
            · refine ⟨f, false, k1, fun w B hs hp => ?_⟩
              have i0 := hs.inf0
              clear hs hp
              cases b
              · obtain rfl := k3 rfl
                go_enter Tryz.func241, Tryz.ntmps241
                go_wp2_with (fail)
                refine bodyPost_ret (v := .tuple #[.float .f64 f0, .bool false]) (by simp [results, Tryz.results241, go_sem]) rfl ?_
                exact ⟨rfl, rfl⟩
              · obtain rfl := k4 rfl
                go_enter Tryz.func241, Tryz.ntmps241
                go_wp2_with (fail)
                refine bodyPost_ret (v := .tuple #[.float .f64 f1, .bool false]) (by simp [results, Tryz.results241, go_sem]) rfl ?_
                exact ⟨rfl, rfl⟩
          · refine ⟨f, false, k1, fun w B hs hp => ?_⟩
            have i0 := hs.inf0
            clear hs hp
            cases b
            · obtain rfl := k3 rfl
              go_enter Tryz.func241, Tryz.ntmps241
              go_wp2_with (fail)
              refine bodyPost_ret (v := .tuple #[.float .f64 f0, .bool false]) (by simp [results, Tryz.results241, go_sem]) rfl ?_
              exact ⟨rfl, rfl⟩
            · obtain rfl := k4 rfl
              go_enter Tryz.func241, Tryz.ntmps241
              go_wp2_with (fail)
              refine bodyPost_ret (v := .tuple #[.float .f64 f1, .bool false]) (by simp [results, Tryz.results241, go_sem]) rfl ?_
              exact ⟨rfl, rfl⟩
        · obtain ⟨j, hj⟩ : ∃ j : Nat, (i : Int) - 22 = (j : Int) := ⟨i - 22, by omega⟩
          have j22 : j ≤ 22 := by omega
          obtain ⟨f2, z1, z2, hmul⟩ := mul_ex k2 (fp_ok j22)
          have hop : ∀ t w, (binOp .mul t (.float .f64 f) (.float .f64 (fp j))).run Tryz.prog w = .ok (.float .f64 f2) w := fun t w => run_float_arith w .mul t .f64 f (fp j) f2 hmul
          obtain ⟨r, hr, _, hmul2⟩ := mul_ex z2 (fp_ok (i := 22) (by omega))
          have hop2 : ∀ t w, (binOp .mul t (.float .f64 f2) (.float .f64 (fp 22))).run Tryz.prog w = .ok (.float .f64 r) w := fun t w => run_float_arith w .mul t .f64 f2 (fp 22) r hmul2
          obtain ⟨c1, hc1⟩ : ∃ c1, (FloatKind.f64.format.order f2 4831355200913801216 == some .gt) = c1 := ⟨_, rfl⟩
          obtain ⟨c2, hc2⟩ : ∃ c2, (FloatKind.f64.format.order f2 14054727237768577024 == some .lt) = c2 := ⟨_, rfl⟩
          have n4 : (22 : Int) < i := by omega
          have n5 : (j : Int) < 23 := by omega
          have n6 : (0 : Int) ≤ j := by omega
          clear e0 e1 hmul hmul2 k2 z2
          cases c1
          · cases c2
            · refine ⟨r, true, hr, fun w B hs hp => ?_⟩
              have i0 := hs.inf0
              obtain ⟨pb, po, pc, hpl, hps, hpv⟩ := hp
              have g0 := hpv j j22
              have g1 := hpv 22 (by omega)
              clear hpv
              clear hs
              cases b
              · obtain rfl := k3 rfl
                go_enter Tryz.func241, Tryz.ntmps241
                go_wp2_with (first | simp only [hop] | simp only [hop2])
                refine bodyPost_ret (v := .tuple #[.float .f64 r, .bool true]) (by simp [results, Tryz.results241, go_sem]) rfl ?_
                exact ⟨rfl, rfl⟩
              · obtain rfl := k4 rfl
                go_enter Tryz.func241, Tryz.ntmps241
                go_wp2_with (first | simp only [hop] | simp only [hop2])
                refine bodyPost_ret (v := .tuple #[.float .f64 r, .bool true]) (by simp [results, Tryz.results241, go_sem]) rfl ?_
                exact ⟨rfl, rfl⟩
            · refine ⟨f2, false, z1, fun w B hs hp => ?_⟩
              have i0 := hs.inf0
              obtain ⟨pb, po, pc, hpl, hps, hpv⟩ := hp
              have g0 := hpv j j22
              clear hpv
              clear hs
              cases b
              · obtain rfl := k3 rfl
                go_enter Tryz.func241, Tryz.ntmps241
                go_wp2_with (simp only [hop])
                refine bodyPost_ret (v := .tuple #[.float .f64 f2, .bool false]) (by simp [results, Tryz.results241, go_sem]) rfl ?_
                exact ⟨rfl, rfl⟩
              · obtain rfl := k4 rfl
                go_enter Tryz.func241, Tryz.ntmps241
                go_wp2_with (simp only [hop])
                refine bodyPost_ret (v := .tuple #[.float .f64 f2, .bool false]) (by simp [results, Tryz.results241, go_sem]) rfl ?_
                exact ⟨rfl, rfl⟩
          · refine ⟨f2, false, z1, fun w B hs hp => ?_⟩
            have i0 := hs.inf0
            obtain ⟨pb, po, pc, hpl, hps, hpv⟩ := hp
            have g0 := hpv j j22
            clear hpv
            clear hs
            cases b
            · obtain rfl := k3 rfl
              go_enter Tryz.func241, Tryz.ntmps241
              go_wp2_with (simp only [hop])
              refine bodyPost_ret (v := .tuple #[.float .f64 f2, .bool false]) (by simp [results, Tryz.results241, go_sem]) rfl ?_
              exact ⟨rfl, rfl⟩
            · obtain rfl := k4 rfl
              go_enter Tryz.func241, Tryz.ntmps241
              go_wp2_with (simp only [hop])
              refine bodyPost_ret (v := .tuple #[.float .f64 f2, .bool false]) (by simp [results, Tryz.results241, go_sem]) rfl ?_
              exact ⟨rfl, rfl⟩
      · by_cases e2 : e < 0 ∧ -22 ≤ e
        · obtain ⟨i, hi⟩ : ∃ i : Nat, -e = (i : Int) := ⟨(-e).toNat, by omega⟩
          have i22 : i ≤ 22 := by omega
          obtain ⟨r, hr, _, hmul⟩ := div_ex k2 (fp_ok i22)
          have hop : ∀ t w, (binOp .quo t (.float .f64 f) (.float .f64 (fp i))).run Tryz.prog w = .ok (.float .f64 r) w := fun t w => run_float_arith w .quo t .f64 f (fp i) r hmul
          have n0 : (e == 0) = false := by simp; omega
          have n1 : e ≤ 0 := by omega
          have n2 : e < 0 := e2.1
          have n3 : -22 ≤ e := e2.2
          have n5 : (i : Int) < 23 := by omega
          have n6 : (0 : Int) ≤ i := by omega
          clear e0 e1 hmul k2
          refine ⟨r, true, hr, fun w B hs hp => ?_⟩
          have i0 := hs.inf0
          obtain ⟨pb, po, pc, hpl, hps, hpv⟩ := hp
          have g0 := hpv i i22
          clear hpv
          clear hs
          cases b
          · obtain rfl := k3 rfl
            go_enter Tryz.func241, Tryz.ntmps241
            go_wp2_with (simp only [hop])
            refine bodyPost_ret (v := .tuple #[.float .f64 r, .bool true]) (by simp [results, Tryz.results241, go_sem]) rfl ?_
            exact ⟨rfl, rfl⟩
          · obtain rfl := k4 rfl
            go_enter Tryz.func241, Tryz.ntmps241
            go_wp2_with (simp only [hop])
            refine bodyPost_ret (v := .tuple #[.float .f64 r, .bool true]) (by simp [results, Tryz.results241, go_sem]) rfl ?_
            exact ⟨rfl, rfl⟩
        · have n0 : (e == 0) = false := by simp; omega
          refine ⟨f, false, k1, fun w B hs hp => ?_⟩
          by_cases e3 : 0 < e
          · have n1 : (37 : Int) < e := by omega
            have n2 : (0 : Int) ≤ e := by omega
            clear e0 e1 e2
            have i0 := hs.inf0
            clear hs hp
            cases b
            · obtain rfl := k3 rfl
              go_enter Tryz.func241, Tryz.ntmps241
              go_wp2_with (fail)
              refine bodyPost_ret (v := .tuple #[.float .f64 f0, .bool false]) (by simp [results, Tryz.results241, go_sem]) rfl ?_
              exact ⟨rfl, rfl⟩
            · obtain rfl := k4 rfl
              go_enter Tryz.func241, Tryz.ntmps241
              go_wp2_with (fail)
              refine bodyPost_ret (v := .tuple #[.float .f64 f1, .bool false]) (by simp [results, Tryz.results241, go_sem]) rfl ?_
              exact ⟨rfl, rfl⟩
          · have n1 : e ≤ 0 := by omega
            have n2 : e < 0 := by omega
            have n3 : e < -22 := by omega
            clear e0 e1 e2 e3
            have i0 := hs.inf0
            clear hs hp
            cases b
            · obtain rfl := k3 rfl
              go_enter Tryz.func241, Tryz.ntmps241
              go_wp2_with (fail)
              refine bodyPost_ret (v := .tuple #[.float .f64 f0, .bool false]) (by simp [results, Tryz.results241, go_sem]) rfl ?_
              exact ⟨rfl, rfl⟩
            · obtain rfl := k4 rfl
              go_enter Tryz.func241, Tryz.ntmps241
              go_wp2_with (fail)
              refine bodyPost_ret (v := .tuple #[.float .f64 f1, .bool false]) (by simp [results, Tryz.results241, go_sem]) rfl ?_
              exact ⟨rfl, rfl⟩
  · have hq2 : ((q : Int) != 0) = true := by simp; omega
    refine ⟨0, false, by decide, fun w B hs hp => ?_⟩
    have i0 := hs.inf0
    clear hs hp hq h0
    go_enter Tryz.func241, Tryz.ntmps241
    go_wp2_with fail
    refine bodyPost_ret (v := .tuple #[.float .f64 0, .bool false]) (by simp [results, Tryz.results241, go_sem]) rfl ?_
    exact ⟨rfl, rfl⟩
end Go.Proofs.YtlmogijkkhdogaaGreatDoor
