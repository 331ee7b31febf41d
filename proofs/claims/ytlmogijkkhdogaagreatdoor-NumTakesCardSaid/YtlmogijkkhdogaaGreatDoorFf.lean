/- num.Canon at the chapter's examples; the law's alive; NumOrders: true of any three floats. No conditions but what the library's own variables hold. -/
import Derived.Test.YtlmogijkkhdogaaGreatDoorFe
namespace Go.Proofs.YtlmogijkkhdogaaGreatDoor
open Go.RowKit
set_option maxRecDepth 100000
attribute [local go_sem] run62 run14

theorem below_grow (w : World) (os : Array Obj) : Below w.heap.size w (Go.Sort.grow w os) :=
  ⟨rfl, rfl, rfl, by simp [Go.Sort.grow], fun k hk => by simp [Go.Sort.grow, Array.getElem?_append_left hk]⟩
theorem itoa_any (n : Int) (w : World) (hg : Glob w) (h1 : -9223372036854775808 ≤ n) (h2 : n ≤ 9223372036854775807) : Calls Tryz.prog 58 #[.int .i64 n] w fun e w' =>
    e = .returned (.string ⟨(Lib.itoa n).toArray⟩) ∧ Below w.heap.size w w' :=
  (Tryz.strconv_Itoa n h1 h2 w hg.pow).mono fun e w' ⟨h3, k, os, h4⟩ => ⟨h3, by
    subst h4
    have := below_grow (w.drewN k) os
    exact ⟨this.os, this.tape, this.output, this.size, this.block⟩⟩

theorem text_negzero (w : World) : Calls Tryz.prog 15 #[.float .f64 W63] w fun e w' => e = .returned (.tuple #[.string ⟨#[45, 48]⟩, .nilIface]) ∧ w = w' := by
  have h0 : (FloatKind.f64.format.order W63 0 == some .eq) = true := by kernel_rfl
  have hN := fun w => isNaN_any W63 w
  rw [show fnan W63 = false by decide] at hN
  have hI := fun w => isInf_any W63 (by decide) w
  rw [show finf W63 = false by decide] at hI
  have hS := fun w => signbit_any W63 (by decide) w
  rw [show fneg W63 = true by decide] at hS
  have HN := Lib.hid hN
  have HI := Lib.hid hI
  have HS := Lib.hid hS
  clear hN hI hS
  generalize W63 = v at *
  go_enter Tryz.func15, Tryz.ntmps15
  go_wp2_with (first | (go_at_call 18; refine (HN.out _).mono ?_; rintro e w' ⟨rfl, rfl⟩) | (go_at_call 19; refine (HI.out _).mono ?_; rintro e w' ⟨rfl, rfl⟩) | (go_at_call 54; refine (HS.out _).mono ?_; rintro e w' ⟨rfl, rfl⟩))
  refine bodyPost_ret (v := .tuple #[.string ⟨#[45, 48]⟩, .nilIface]) (by simp [results, Tryz.results15, go_sem]) rfl ?_
  exact ⟨rfl, rfl⟩

theorem canon_whole (l : List UInt8) (p : Parts) (n : Int) (w : World) (hg : Glob w) (h64 : ¬ 64 < l.length) (hp : parseL l = some p) (hw : wholeN l = .ok n) (hn : n ≠ 0) (h1 : -9223372036854775808 ≤ n) (h2 : n ≤ 9223372036854775807) :
    Calls Tryz.prog 21 #[.string ⟨l.toArray⟩] w fun e w' => e = .returned (.tuple #[.string ⟨(Lib.itoa n).toArray⟩, .nilIface]) ∧ Below w.heap.size w w' := by
  have hWN := fun w hg => numWhole_any l w hg (by omega)
  rw [hw] at hWN
  have HA := Lib.hid (fun w => asks_ok l p w h64 hp)
  have HW := Lib.hid hWN
  have HI := Lib.hid (fun w hg => itoa_any n w hg h1 h2)
  have HG := Lib.hid hg
  have e1 : (n != 0) = true := by simp [hn]
  clear hp hw hWN
  go_enter Tryz.func21, Tryz.ntmps21
  go_wp2_with (first
    | (go_at_call 60; refine (HA.out _).mono ?_; rintro e w1 ⟨rfl, hb1⟩; obtain ⟨hc1, hf1⟩ := bcell hb1)
    | (go_at_call 23; refine (HW.out _ ((HG.out.below hb1).below ((Below.refl _ _).alloc (Nat.le_refl _) _))).mono ?_; rintro e w2 ⟨hb2, rfl⟩)
    | (go_at_call 58; refine (HI.out _ (((HG.out.below hb1).below ((Below.refl _ _).alloc (Nat.le_refl _) _)).below hb2)).mono ?_; rintro e w3 ⟨rfl, hb3⟩))
  refine bodyPost_ret (v := .tuple #[.string ⟨(Lib.itoa n).toArray⟩, .nilIface]) (by simp [results, Tryz.results21, go_sem]) rfl ?_
  exact ⟨rfl, hb1.trans (((Below.refl _ _).alloc hb1.size _).trans ((hb2.mono (by simp; have := hb1.size; omega)).trans (hb3.mono (by have := hb2.size; simp at this; have := hb1.size; omega))))⟩

theorem canon_negzero (l : List UInt8) (p : Parts) (w : World) (hg : Glob w) (h64 : ¬ 64 < l.length) (hp : parseL l = some p) (hw : wholeN l = .ok 0) (c : UInt8) (t : List UInt8) (hl : l = 45 :: t) (hf : FloatOk l W63) :
    Calls Tryz.prog 21 #[.string ⟨l.toArray⟩] w fun e w' => e = .returned (.tuple #[.string ⟨#[45, 48]⟩, .nilIface]) ∧ Below w.heap.size w w' := by
  have hWN := fun w hg => numWhole_any l w hg (by omega)
  rw [hw] at hWN
  have HA := Lib.hid (fun w => asks_ok l p w h64 hp)
  have HW := Lib.hid hWN
  have HF := Lib.hid (fun w hg => float_ok l p W63 w hg (by decide) (by decide) h64 hp hf)
  have HT := Lib.hid text_negzero
  have HG := Lib.hid hg
  have h3 : (0 : Nat) < (⟨l.toArray⟩ : ByteArray).size := by show 0 < l.length; rw [hl]; simp
  have h4 : (⟨l.toArray⟩ : ByteArray)[0]'h3 = 45 := by subst hl; rfl
  have h5 : (0 : Int) < (l.length : Int) := by have : 0 < l.length := h3; omega
  clear hp hw hWN hl hf
  generalize W63 = v at *
  go_enter Tryz.func21, Tryz.ntmps21
  go_wp2_with (first
    | (go_at_call 60; refine (HA.out _).mono ?_; rintro e w1 ⟨rfl, hb1⟩; obtain ⟨hc1, hf1⟩ := bcell hb1)
    | (go_at_call 23; refine (HW.out _ ((HG.out.below hb1).below ((Below.refl _ _).alloc (Nat.le_refl _) _))).mono ?_; rintro e w2 ⟨hb2, rfl⟩)
    | (go_at_call 20; refine (HF.out _ (((HG.out.below hb1).below ((Below.refl _ _).alloc (Nat.le_refl _) _)).below hb2)).mono ?_; rintro e w3 ⟨rfl, hb3⟩)
    | (go_at_call 15; refine (HT.out _).mono ?_; rintro e w4 ⟨rfl, rfl⟩))
  refine bodyPost_ret (v := .tuple #[.string ⟨#[45, 48]⟩, .nilIface]) (by simp [results, Tryz.results21, go_sem]) rfl ?_
  exact ⟨rfl, hb1.trans (((Below.refl _ _).alloc hb1.size _).trans ((hb2.mono (by simp; have := hb1.size; omega)).trans (hb3.mono (by have := hb2.size; simp at this; have := hb1.size; omega))))⟩

def t15 : List UInt8 := [49, 46, 53, 48, 101, 49]
def t100 : List UInt8 := [49, 101, 50]
def t0 : List UInt8 := [45, 48, 46, 48]
theorem p15 : parseL t15 = some ⟨false, [49], [53, 48], [49]⟩ := by kernel_rfl
theorem p100 : parseL t100 = some ⟨false, [49], [], [50]⟩ := by kernel_rfl
theorem p0 : parseL t0 = some ⟨true, [48], [48], []⟩ := by kernel_rfl
theorem w15 : wholeN t15 = .ok 15 := by kernel_rfl
theorem w100 : wholeN t100 = .ok 100 := by kernel_rfl
theorem w0 : wholeN t0 = .ok 0 := by kernel_rfl
theorem i15 : Lib.itoa 15 = [49, 53] := by
  rw [show (15 : Int) = ((15 : Nat) : Int) from rfl, Lib.itoa_nonneg, Lib.decDigits_two (by decide) (by decide)]; rfl
theorem i100 : Lib.itoa 100 = [49, 48, 48] := by
  rw [show (100 : Int) = ((100 : Nat) : Int) from rfl, Lib.itoa_nonneg, Lib.decDigits, dif_neg (by decide), Lib.decDigits_two (by decide) (by decide)]; rfl
theorem f0 : FloatOk t0 W63 := by
  have hb : bodyOk [48, 46, 48] := ⟨by decide, by decide, ⟨48, [46, 48], rfl, by decide⟩, by decide⟩
  intro w hg
  have h := parseFloat_ok (txt true [48, 46, 48] .none) W63 (by decide) w
    ((atof_zero true [48, 46, 48] .none hb trivial (by decide) (by decide) w hg.fast).mono fun e w' h => ⟨h.1, by rw [← h.2]; exact Below.refl _ _⟩)
  exact h

theorem below_draw {w w' : World} (h : Below w.heap.size w w') : w.heap.size ≤ w'.heap.size := h.size
set_option maxHeartbeats 1600000 in
theorem alive_any (w : World) (hg : Glob w) : Calls Tryz.prog 13 #[] w fun e w' => e = .returned (.bool true) ∧ Below w.heap.size w w' := by
  have h1 : ∀ w, Glob w → Calls Tryz.prog 21 #[.string ⟨#[49, 46, 53, 48, 101, 49]⟩] w fun e w' => e = .returned (.tuple #[.string ⟨#[49, 53]⟩, .nilIface]) ∧ Below w.heap.size w w' := by
    intro w hg
    have h := canon_whole t15 ⟨false, [49], [53, 48], [49]⟩ 15 w hg (by decide) p15 w15 (by decide) (by decide) (by decide)
    rw [i15] at h
    exact h
  have h2 : ∀ w, Glob w → Calls Tryz.prog 21 #[.string ⟨#[49, 101, 50]⟩] w fun e w' => e = .returned (.tuple #[.string ⟨#[49, 48, 48]⟩, .nilIface]) ∧ Below w.heap.size w w' := by
    intro w hg
    have h := canon_whole t100 ⟨false, [49], [], [50]⟩ 100 w hg (by decide) p100 w100 (by decide) (by decide) (by decide)
    rw [i100] at h
    exact h
  have h3 : ∀ w, Glob w → Calls Tryz.prog 21 #[.string ⟨#[45, 48, 46, 48]⟩] w fun e w' => e = .returned (.tuple #[.string ⟨#[45, 48]⟩, .nilIface]) ∧ Below w.heap.size w w' := by
    intro w hg
    exact canon_negzero t0 ⟨true, [48], [48], []⟩ w hg (by decide) p0 w0 48 [48, 46, 48] rfl f0
  have H1 := Lib.hid h1
  have H2 := Lib.hid h2
  have H3 := Lib.hid h3
  have HG := Lib.hid hg
  clear h1 h2 h3
  go_enter Tryz.func13, Tryz.ntmps13
  go_wp2_with (first
    | (go_at_call 21; with_reducible refine (H1.out _ HG.out).mono ?_; rintro e w1 ⟨rfl, hb1⟩)
    | (go_at_call 21; with_reducible refine (H2.out _ (HG.out.below hb1)).mono ?_; rintro e w2 ⟨rfl, hb2⟩)
    | (go_at_call 21; with_reducible refine (H3.out _ ((HG.out.below hb1).below hb2)).mono ?_; rintro e w3 ⟨rfl, hb3⟩))
  go_ret
  refine ⟨rfl, ?_⟩
  exact hb1.trans ((hb2.mono hb1.size).trans (hb3.mono (Nat.le_trans hb1.size hb2.size)))

set_option maxHeartbeats 6400000 in
/-- the law, with what its calls answer. -/
theorem orders_walk (x y z : Nat) (w : World) (hA : Calls Tryz.prog 13 #[] w fun e w' => e = .returned (.bool true) ∧ Below w.heap.size w w')
    (lab lba lbc lac sab eq nx ny : Bool)
    (h1 : ∀ w, Calls Tryz.prog 29 #[.float .f64 x, .float .f64 y] w fun e w' => e = .returned (.bool lab) ∧ w = w')
    (h2 : ∀ w, Calls Tryz.prog 30 #[.float .f64 x, .float .f64 y] w fun e w' => e = .returned (.bool lab) ∧ w = w')
    (h3 : ∀ w, Calls Tryz.prog 30 #[.float .f64 y, .float .f64 x] w fun e w' => e = .returned (.bool lba) ∧ w = w')
    (h4 : ∀ w, Calls Tryz.prog 31 #[.float .f64 x, .float .f64 y] w fun e w' => e = .returned (.bool sab) ∧ w = w')
    (h5 : ∀ w, Calls Tryz.prog 29 #[.float .f64 y, .float .f64 z] w fun e w' => e = .returned (.bool lbc) ∧ w = w')
    (h6 : ∀ w, Calls Tryz.prog 29 #[.float .f64 x, .float .f64 z] w fun e w' => e = .returned (.bool lac) ∧ w = w')
    (h7 : ∀ w, Calls Tryz.prog 29 #[.float .f64 x, .float .f64 x] w fun e w' => e = .returned (.bool false) ∧ w = w')
    (h8 : ∀ w, Calls Tryz.prog 31 #[.float .f64 x, .float .f64 x] w fun e w' => e = .returned (.bool true) ∧ w = w')
    (h9 : ∀ w, Calls Tryz.prog 22 #[.float .f64 x, .float .f64 y] w fun e w' => e = .returned (.bool eq) ∧ w = w')
    (h10 : ∀ w, Calls Tryz.prog 18 #[.float .f64 x] w fun e w' => e = .returned (.bool nx) ∧ w = w')
    (h11 : ∀ w, Calls Tryz.prog 18 #[.float .f64 y] w fun e w' => e = .returned (.bool ny) ∧ w = w')
    (ok : (sab = (!lab && !lba)) ∧ ((lab && lbc && !lac) = false) ∧ sab = (eq || (nx && ny))) :
    Calls Tryz.prog 7 #[.int .u64 x, .int .u64 y, .int .u64 z] w fun e w' => e = .returned (.bool true) ∧ Below w.heap.size w w' := by
  have HA := Lib.hid hA
  have H1 := Lib.hid h1
  have H2 := Lib.hid h2
  have H3 := Lib.hid h3
  have H4 := Lib.hid h4
  have H5 := Lib.hid h5
  have H6 := Lib.hid h6
  have H7 := Lib.hid h7
  have H8 := Lib.hid h8
  have H9 := Lib.hid h9
  have H10 := Lib.hid h10
  have H11 := Lib.hid h11
  clear h1 h2 h3 h4 h5 h6 h7 h8 h9 h10 h11 hA
  obtain ⟨k1, k2, k3⟩ := ok
  have hx0 : (x : Int).toNat = x := by simp
  go_enter Tryz.func7, Tryz.ntmps7
  cases lab <;> cases lba <;> cases eq <;> cases nx <;> cases ny <;> simp only [Bool.not_true, Bool.not_false, Bool.and_true, Bool.and_false, Bool.true_and, Bool.false_and, Bool.true_or, Bool.false_or, Bool.or_self, Bool.and_self, Bool.not_eq_false'] at k1 k2 k3 <;> subst k1 <;> first
    | (exact Bool.noConfusion k3)
    | (cases lbc <;> cases lac <;> first
        | (exact Bool.noConfusion k2)
        | (clear k2 k3
           go_wp2_with (first
            | (go_at_call 13; refine (HA.out).mono ?_; rintro e w1 ⟨rfl, hb1⟩)
            | (go_at_call 29; with_reducible refine (H1.out _).mono ?_; rintro e w' ⟨rfl, rfl⟩)
            | (go_at_call 30; with_reducible refine (H2.out _).mono ?_; rintro e w' ⟨rfl, rfl⟩)
            | (go_at_call 30; with_reducible refine (H3.out _).mono ?_; rintro e w' ⟨rfl, rfl⟩)
            | (go_at_call 31; with_reducible refine (H4.out _).mono ?_; rintro e w' ⟨rfl, rfl⟩)
            | (go_at_call 29; with_reducible refine (H5.out _).mono ?_; rintro e w' ⟨rfl, rfl⟩)
            | (go_at_call 29; with_reducible refine (H6.out _).mono ?_; rintro e w' ⟨rfl, rfl⟩)
            | (go_at_call 29; with_reducible refine (H7.out _).mono ?_; rintro e w' ⟨rfl, rfl⟩)
            | (go_at_call 31; with_reducible refine (H8.out _).mono ?_; rintro e w' ⟨rfl, rfl⟩)
            | (go_at_call 22; with_reducible refine (H9.out _).mono ?_; rintro e w' ⟨rfl, rfl⟩)
            | (go_at_call 18; with_reducible refine (H10.out _).mono ?_; rintro e w' ⟨rfl, rfl⟩)
            | (go_at_call 18; with_reducible refine (H11.out _).mono ?_; rintro e w' ⟨rfl, rfl⟩))
           go_ret
           exact ⟨rfl, hb1⟩))

theorem lawOrders_any (x y z : Nat) (hx : x < 18446744073709551616) (hy : y < 18446744073709551616) (hz : z < 18446744073709551616) (w : World) (hg : Glob w) :
    Calls Tryz.prog 7 #[.int .u64 x, .int .u64 y, .int .u64 z] w fun e w' => e = .returned (.bool true) ∧ Below w.heap.size w w' := by
  refine orders_walk x y z w (alive_any w hg) _ _ _ _ _ _ _ _ (less_any x y hx hy) (refLess_any x y hx hy) (refLess_any y x hy hx) (numSame_any x y hx hy) (less_any y z hy hz) (less_any x z hx hz)
    (fun w => (less_any x x hx hx w).mono fun e w' h => ⟨by rw [h.1]; simp, h.2⟩) (fun w => (numSame_any x x hx hx w).mono fun e w' h => ⟨by rw [h.1]; simp, h.2⟩) (lawSame_any x y) (isNaN_any x) (isNaN_any y) ?_
  have hi := frank_inj hx hy
  refine ⟨?_, ?_, ?_⟩
  · by_cases h1 : frank x < frank y
    · simp [h1]; omega
    · by_cases h2 : frank y < frank x
      · simp [h2]; omega
      · have : frank x = frank y := by omega
        simp [this]
  · by_cases h1 : frank x < frank y
    · by_cases h2 : frank y < frank z
      · have : frank x < frank z := by omega
        simp [this]
      · simp [h2]
    · simp [h1]
  · by_cases h1 : frank x = frank y
    · rw [decide_eq_true h1]
      rcases hi.1 h1 with h | ⟨h, h'⟩
      · simp [h]
      · simp [h, h']
    · rw [decide_eq_false h1]
      have h2 : x ≠ y := fun h => h1 (hi.2 (Or.inl h))
      cases hnx : fnan x
      · simp [h2]
      · cases hny : fnan y
        · simp [h2]
        · exact absurd (hi.2 (Or.inr ⟨hnx, hny⟩)) h1
end Go.Proofs.YtlmogijkkhdogaaGreatDoor
