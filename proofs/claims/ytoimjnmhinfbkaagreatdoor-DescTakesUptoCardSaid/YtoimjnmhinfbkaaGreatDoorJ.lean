import Derived.Test.YtoimjnmhinfbkaaGreatDoorI
import Derived.StillTailTactics
namespace Go.Proofs.YtoimjnmhinfbkaaGreatDoor
open Go.RowKit
set_option maxRecDepth 100000

theorem ba_eta (s : ByteArray) : (⟨s.data.toList.toArray⟩ : ByteArray) = s := by simp

theorem numWhole_str (s : ByteArray) (w : World) (hg : Glob w) (hl : s.size ≤ 1073741824) : Calls Tryz.prog 52 #[.string s] w (NRes w (wholeN s.data.toList)) := by
  have := numWhole_any s.data.toList w hg (by rw [Array.length_toList]; exact hl)
  rwa [ba_eta] at this

theorem numWhole_ok (s : ByteArray) (n : Int) (w : World) (hg : Glob w) (hl : s.size ≤ 1073741824) (h : wholeN s.data.toList = .ok n) : Calls Tryz.prog 52 #[.string s] w fun e w' => e = .returned (.tuple #[.int .i64 n, .nilIface]) ∧ Below w.heap.size w w' :=
  (numWhole_str s w hg hl).mono fun e w' ⟨h1, h2⟩ => by rw [h] at h2; exact ⟨h2, h1⟩
theorem numWhole_bad (s : ByteArray) (c : Int) (w : World) (hg : Glob w) (hl : s.size ≤ 1073741824) (h : wholeN s.data.toList = .error c) : Calls Tryz.prog 52 #[.string s] w fun e w' => e = .returned (.tuple #[.int .i64 0, .iface 35 (.int .i64 c)]) ∧ Below w.heap.size w w' :=
  (numWhole_str s w hg hl).mono fun e w' ⟨h1, h2⟩ => by rw [h] at h2; exact ⟨h2, h1⟩

theorem lwhole_kind (k : Int) (t : Bool) (x : ByteArray) (A : Option Addr) (n ca : Nat) (B : Option Addr) (m cb : Nat) (p : ByteArray) (least most : Int) (w : World) (h : (k == 2) = false) :
    Calls Tryz.prog 13 #[.agg #[.int .i64 k, .bool t, .string x, .slice A n ca, .slice B m cb, .string p], .int .i64 least, .int .i64 most] w (Threw w 11 p) := by
  go_enter Tryz.func13, Tryz.ntmps13
  go_wp2_with (go_at_call 51; refine (kind_no _ _ _ _ _ _ _ _ _ _ _ _ h).mono ?_; rintro e w' ⟨g, rfl, h⟩)
  exact ⟨rfl, Threw.of ⟨g, rfl, h⟩ ((Below.refl _ _).alloc (Nat.le_refl _) _)⟩

/-- what is no whole number. -/
theorem lwhole_form (t : Bool) (x : ByteArray) (A : Option Addr) (n ca : Nat) (B : Option Addr) (m cb : Nat) (p : ByteArray) (least most : Int) (w : World) (hg : Glob w) (hl : x.size ≤ 1073741824)
    (c : Int) (hc : c = 2 ∨ c = 3 ∨ c = 11) (h : wholeN x.data.toList = .error c) :
    Calls Tryz.prog 13 #[.agg #[.int .i64 2, .bool t, .string x, .slice A n ca, .slice B m cb, .string p], .int .i64 least, .int .i64 most] w (Threw w 11 p) := by
  have HG := Lib.hid hg
  have H := Lib.hid h
  clear hg h
  have hne : ∀ w, (binOp .neq 29 (.iface 35 (.int .i64 c)) (.iface 35 (.int .i64 1))).run Tryz.prog w = .ok (.bool true) w := by
    rcases hc with rfl | rfl | rfl
    all_goals exact fun _ => by kernel_rfl
  clear hc
  go_enter Tryz.func13, Tryz.ntmps13
  go_wp2_with (first | (go_at_call 51; refine (kind_yes _ _ _ _ _ _ _ _ _ _ _ _ (by rfl)).mono ?_; rintro e w1 ⟨rfl, hb1⟩; obtain ⟨hc1, hf1⟩ := bcell hb1; have hz1 : w.heap.size < w1.heap.size := (by have := hb1.size; simp at this; omega)) | (go_at_call 52; refine (numWhole_bad x c _ (by exact HG.out.below (((Below.refl _ _).alloc (Nat.le_refl _) _).trans (hb1.mono (by simp)))) hl H.out).mono ?_; rintro e w2 ⟨rfl, hb2⟩; obtain ⟨hc2, hf2⟩ := bcell hb2) | (go_at_call 53; refine (wrong_any _ _ _ _ _ _ _ _ _ _ _ _).mono ?_; rintro e w' ⟨g, rfl, h⟩))
  have b1 : Below w.heap.size w w1 := ((Below.refl _ _).alloc (Nat.le_refl _) _).trans (hb1.mono (by simp))
  exact ⟨rfl, Threw.of ⟨g, rfl, h⟩ (b1.trans (hb2.mono (by omega)))⟩

/-- what is one, but too great. -/
theorem lwhole_range (t : Bool) (x : ByteArray) (A : Option Addr) (n ca : Nat) (B : Option Addr) (m cb : Nat) (p : ByteArray) (least most : Int) (w : World) (hg : Glob w) (hl : x.size ≤ 1073741824)
    (h : wholeN x.data.toList = .error 1) :
    Calls Tryz.prog 13 #[.agg #[.int .i64 2, .bool t, .string x, .slice A n ca, .slice B m cb, .string p], .int .i64 least, .int .i64 most] w (Threw w 1 p) := by
  have HG := Lib.hid hg
  have H := Lib.hid h
  clear hg h
  have hne : ∀ w, (binOp .neq 29 (.iface 35 (.int .i64 1)) (.iface 35 (.int .i64 1))).run Tryz.prog w = .ok (.bool false) w := fun _ => by kernel_rfl
  go_enter Tryz.func13, Tryz.ntmps13
  go_wp2_with (first | (go_at_call 51; refine (kind_yes _ _ _ _ _ _ _ _ _ _ _ _ (by rfl)).mono ?_; rintro e w1 ⟨rfl, hb1⟩; obtain ⟨hc1, hf1⟩ := bcell hb1; have hz1 : w.heap.size < w1.heap.size := (by have := hb1.size; simp at this; omega)) | (go_at_call 52; refine (numWhole_bad x 1 _ (by exact HG.out.below (((Below.refl _ _).alloc (Nat.le_refl _) _).trans (hb1.mono (by simp)))) hl H.out).mono ?_; rintro e w2 ⟨rfl, hb2⟩; obtain ⟨hc2, hf2⟩ := bcell hb2))
  have b1 : Below w.heap.size w w1 := ((Below.refl _ _).alloc (Nat.le_refl _) _).trans (hb1.mono (by simp))
  have HB := Lib.hid (b1.trans (hb2.mono (by omega)))
  clear b1
  go_still_tail 13, (by kernel_rfl)
  change wpList _ _ _ _ _ w2.drew
  go_wp2_with (go_at_call 54; refine (lmust_no _ _ _ _ _ _ _ _ _ _ _ _).mono ?_; rintro e w' ⟨g, rfl, h⟩)
  exact ⟨rfl, Threw.of ⟨g, rfl, h⟩ HB.out.drew⟩

/-- a whole number out of its bounds. -/
theorem lwhole_out (t : Bool) (x : ByteArray) (A : Option Addr) (n ca : Nat) (B : Option Addr) (m cb : Nat) (p : ByteArray) (least most q : Int) (w : World) (hg : Glob w) (hl : x.size ≤ 1073741824)
    (h : wholeN x.data.toList = .ok q) (ho : q < least ∨ most < q) :
    Calls Tryz.prog 13 #[.agg #[.int .i64 2, .bool t, .string x, .slice A n ca, .slice B m cb, .string p], .int .i64 least, .int .i64 most] w (Threw w 1 p) := by
  have HG := Lib.hid hg
  have H := Lib.hid h
  clear hg h
  by_cases h1 : q < least
  · have hd1 : decide (least ≤ q) = false := by simpa using h1
    clear ho
    go_enter Tryz.func13, Tryz.ntmps13
    go_wp2_with (first | (go_at_call 51; refine (kind_yes _ _ _ _ _ _ _ _ _ _ _ _ (by rfl)).mono ?_; rintro e w1 ⟨rfl, hb1⟩; obtain ⟨hc1, hf1⟩ := bcell hb1; have hz1 : w.heap.size < w1.heap.size := (by have := hb1.size; simp at this; omega)) | (go_at_call 52; refine (numWhole_ok x q _ (by exact HG.out.below (((Below.refl _ _).alloc (Nat.le_refl _) _).trans (hb1.mono (by simp)))) hl H.out).mono ?_; rintro e w2 ⟨rfl, hb2⟩; obtain ⟨hc2, hf2⟩ := bcell hb2))
    have b1 : Below w.heap.size w w1 := ((Below.refl _ _).alloc (Nat.le_refl _) _).trans (hb1.mono (by simp))
    have HB := Lib.hid (b1.trans (hb2.mono (by omega)))
    clear b1
    go_still_tail 13, (by kernel_rfl)
    change wpList _ _ _ _ _ w2.drew
    go_wp2_with (go_at_call 54; refine (lmust_no _ _ _ _ _ _ _ _ _ _ _ _).mono ?_; rintro e w' ⟨g, rfl, h⟩)
    exact ⟨rfl, Threw.of ⟨g, rfl, h⟩ HB.out.drew⟩
  · have hd1 : decide (least ≤ q) = true := by simp; omega
    have hd2 : decide (q ≤ most) = false := by simp; omega
    clear ho h1
    go_enter Tryz.func13, Tryz.ntmps13
    go_wp2_with (first | (go_at_call 51; refine (kind_yes _ _ _ _ _ _ _ _ _ _ _ _ (by rfl)).mono ?_; rintro e w1 ⟨rfl, hb1⟩; obtain ⟨hc1, hf1⟩ := bcell hb1; have hz1 : w.heap.size < w1.heap.size := (by have := hb1.size; simp at this; omega)) | (go_at_call 52; refine (numWhole_ok x q _ (by exact HG.out.below (((Below.refl _ _).alloc (Nat.le_refl _) _).trans (hb1.mono (by simp)))) hl H.out).mono ?_; rintro e w2 ⟨rfl, hb2⟩; obtain ⟨hc2, hf2⟩ := bcell hb2))
    have b1 : Below w.heap.size w w1 := ((Below.refl _ _).alloc (Nat.le_refl _) _).trans (hb1.mono (by simp))
    have HB := Lib.hid (b1.trans (hb2.mono (by omega)))
    clear b1
    go_still_tail 13, (by kernel_rfl)
    change wpList _ _ _ _ _ w2.drew
    go_wp2_with (go_at_call 54; refine (lmust_no _ _ _ _ _ _ _ _ _ _ _ _).mono ?_; rintro e w' ⟨g, rfl, h⟩)
    exact ⟨rfl, Threw.of ⟨g, rfl, h⟩ HB.out.drew⟩

theorem lwhole_in (t : Bool) (x : ByteArray) (A : Option Addr) (n ca : Nat) (B : Option Addr) (m cb : Nat) (p : ByteArray) (least most q : Int) (w : World) (hg : Glob w) (hl : x.size ≤ 1073741824)
    (h : wholeN x.data.toList = .ok q) (h1 : least ≤ q) (h2 : q ≤ most) :
    Calls Tryz.prog 13 #[.agg #[.int .i64 2, .bool t, .string x, .slice A n ca, .slice B m cb, .string p], .int .i64 least, .int .i64 most] w fun e w' => e = .returned (.int .i64 q) ∧ Below w.heap.size w w' := by
  have HG := Lib.hid hg
  have H := Lib.hid h
  clear hg h
  have hd1 : decide (least ≤ q) = true := by simpa using h1
  have hd2 : decide (q ≤ most) = true := by simpa using h2
  clear h1 h2
  go_enter Tryz.func13, Tryz.ntmps13
  go_wp2_with (first | (go_at_call 51; refine (kind_yes _ _ _ _ _ _ _ _ _ _ _ _ (by rfl)).mono ?_; rintro e w1 ⟨rfl, hb1⟩; obtain ⟨hc1, hf1⟩ := bcell hb1; have hz1 : w.heap.size < w1.heap.size := (by have := hb1.size; simp at this; omega)) | (go_at_call 52; refine (numWhole_ok x q _ (by exact HG.out.below (((Below.refl _ _).alloc (Nat.le_refl _) _).trans (hb1.mono (by simp)))) hl H.out).mono ?_; rintro e w2 ⟨rfl, hb2⟩; obtain ⟨hc2, hf2⟩ := bcell hb2))
  have b1 : Below w.heap.size w w1 := ((Below.refl _ _).alloc (Nat.le_refl _) _).trans (hb1.mono (by simp))
  have HB := Lib.hid (b1.trans (hb2.mono (by omega)))
  clear b1
  go_still_tail 13, (by kernel_rfl)
  change wpList _ _ _ _ _ w2.drew
  go_wp2_with (go_at_call 54; refine (lmust_yes _ _ _ _ _ _ _ _ _ _ _ _).mono ?_; rintro e w' ⟨rfl, hb3⟩)
  go_ret
  exact ⟨rfl, HB.out.drew.trans (hb3.mono HB.out.drew.size)⟩

end Go.Proofs.YtoimjnmhinfbkaaGreatDoor
