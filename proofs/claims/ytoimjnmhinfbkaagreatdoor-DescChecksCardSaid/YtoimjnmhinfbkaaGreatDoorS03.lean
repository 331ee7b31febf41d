import Derived.Deep.RegionLaw
import Derived.Lib.DecodeN
import Derived.Lib.Hide
import Derived.StillTailTactics
import Derived.WalkKit
import Derived.Test.YtoimjnmhinfbkaaGreatDoorS02
namespace Go.Proofs.YtoimjnmhinfbkaaGreatDoor
open Go.RowKit
set_option maxRecDepth 100000
theorem ba_eta (s : ByteArray) : (⟨s.data.toList.toArray⟩ : ByteArray) = s := by simp
theorem numWhole_str (s : ByteArray) (w : World) (hg : Glob w) (hl : s.size ≤ 1073741824) : Calls Tryz.prog 52 #[.string s] w (NRes w (wholeN s.data.toList)) := by
  have := numWhole_any s.data.toList w hg (by rw [Array.length_toList]; exact hl)
  rwa [ba_eta] at this
theorem numWhole_ok (s : ByteArray) (n : Int) (w : World) (hg : Glob w) (hl : s.size ≤ 1073741824) (h : wholeN s.data.toList = .ok n) : Calls Tryz.prog 52 #[.string s] w fun e w' => e = .returned (.tuple #[.int .i64 n, .nilIface]) ∧ Below w.heap.size w w' :=
  (numWhole_str s w hg hl).mono fun e w' ⟨h1, h2⟩ => by rw [h] at h2; exact ⟨h2, h1⟩
theorem numWhole_bad (s : ByteArray) (c : Int) (w : World) (hg : Glob w) (hl : s.size ≤ 1073741824) (h : wholeN s.data.toList = .error c) : Calls Tryz.prog 52 #[.string s] w fun e w' => e = .returned (.tuple #[.int .i64 0, .iface 35 (.int .i64 c)]) ∧ Below w.heap.size w w' :=
  (numWhole_str s w hg hl).mono fun e w' ⟨h1, h2⟩ => by rw [h] at h2; exact ⟨h2, h1⟩
theorem lwhole_kind (k : Int) (t : Bool) (x : ByteArray) (A : Option Addr) (n ca : Nat) (B : Option Addr) (m cb : Nat) (p : ByteArray) (least most : Int) (w : World) (h : (k == 2) = false) :
    Calls Tryz.prog 13 #[.agg #[.int .i64 k, .bool t, .string x, .slice A n ca, .slice B m cb, .string p], .int .i64 least, .int .i64 most] w (Threw w 11 p) := by
  go_enter Tryz.func13, Tryz.ntmps13
  go_wp2_with (go_at_call 51; refine (kind_no _ _ _ _ _ _ _ _ _ _ _ _ h).mono ?_; rintro e w' ⟨g, rfl, h⟩)
  exact ⟨rfl, Threw.of ⟨g, rfl, h⟩ ((Below.refl _ _).alloc (Nat.le_refl _) _)⟩
/-- what is no whole number. -/
theorem lwhole_form (t : Bool) (x : ByteArray) (A : Option Addr) (n ca : Nat) (B : Option Addr) (m cb : Nat) (p : ByteArray) (least most : Int) (w : World) (hg : Glob w) (hl : x.size ≤ 1073741824)
    (c : Int) (hc : c = 2 ∨ c = 3 ∨ c = 11) (h : wholeN x.data.toList = .error c) :
    Calls Tryz.prog 13 #[.agg #[.int .i64 2, .bool t, .string x, .slice A n ca, .slice B m cb, .string p], .int .i64 least, .int .i64 most] w (Threw w 11 p) := by
  have HG := Lib.hid hg
  have H := Lib.hid h
  clear hg h
  have hne : ∀ w, (binOp .neq 29 (.iface 35 (.int .i64 c)) (.iface 35 (.int .i64 1))).run Tryz.prog w = .ok (.bool true) w := by
    rcases hc with rfl | rfl | rfl
    all_goals exact fun _ => by kernel_rfl
  clear hc
  go_enter Tryz.func13, Tryz.ntmps13
  go_wp2_with (first | (go_at_call 51; refine (kind_yes _ _ _ _ _ _ _ _ _ _ _ _ (by rfl)).mono ?_; rintro e w1 ⟨rfl, hb1⟩; obtain ⟨hc1, hf1⟩ := bcell hb1; have hz1 : w.heap.size < w1.heap.size := (by have := hb1.size; simp at this; omega)) | (go_at_call 52; refine (numWhole_bad x c _ (by exact HG.out.below (((Below.refl _ _).alloc (Nat.le_refl _) _).trans (hb1.mono (by simp)))) hl H.out).mono ?_; rintro e w2 ⟨rfl, hb2⟩; obtain ⟨hc2, hf2⟩ := bcell hb2) | (go_at_call 53; refine (wrong_any _ _ _ _ _ _ _ _ _ _ _ _).mono ?_; rintro e w' ⟨g, rfl, h⟩))
  have b1 : Below w.heap.size w w1 := ((Below.refl _ _).alloc (Nat.le_refl _) _).trans (hb1.mono (by simp))
  exact ⟨rfl, Threw.of ⟨g, rfl, h⟩ (b1.trans (hb2.mono (by omega)))⟩
/-- what is one, but too great. -/
theorem lwhole_range (t : Bool) (x : ByteArray) (A : Option Addr) (n ca : Nat) (B : Option Addr) (m cb : Nat) (p : ByteArray) (least most : Int) (w : World) (hg : Glob w) (hl : x.size ≤ 1073741824)
    (h : wholeN x.data.toList = .error 1) :
    Calls Tryz.prog 13 #[.agg #[.int .i64 2, .bool t, .string x, .slice A n ca, .slice B m cb, .string p], .int .i64 least, .int .i64 most] w (Threw w 1 p) := by
  have HG := Lib.hid hg
  have H := Lib.hid h
  clear hg h
  have hne : ∀ w, (binOp .neq 29 (.iface 35 (.int .i64 1)) (.iface 35 (.int .i64 1))).run Tryz.prog w = .ok (.bool false) w := fun _ => by kernel_rfl
  go_enter Tryz.func13, Tryz.ntmps13
  go_wp2_with (first | (go_at_call 51; refine (kind_yes _ _ _ _ _ _ _ _ _ _ _ _ (by rfl)).mono ?_; rintro e w1 ⟨rfl, hb1⟩; obtain ⟨hc1, hf1⟩ := bcell hb1; have hz1 : w.heap.size < w1.heap.size := (by have := hb1.size; simp at this; omega)) | (go_at_call 52; refine (numWhole_bad x 1 _ (by exact HG.out.below (((Below.refl _ _).alloc (Nat.le_refl _) _).trans (hb1.mono (by simp)))) hl H.out).mono ?_; rintro e w2 ⟨rfl, hb2⟩; obtain ⟨hc2, hf2⟩ := bcell hb2))
  have b1 : Below w.heap.size w w1 := ((Below.refl _ _).alloc (Nat.le_refl _) _).trans (hb1.mono (by simp))
  have HB := Lib.hid (b1.trans (hb2.mono (by omega)))
  clear b1
  go_still_tail 13, (by kernel_rfl)
  change wpList _ _ _ _ _ w2.drew
  go_wp2_with (go_at_call 54; refine (lmust_no _ _ _ _ _ _ _ _ _ _ _ _).mono ?_; rintro e w' ⟨g, rfl, h⟩)
  exact ⟨rfl, Threw.of ⟨g, rfl, h⟩ HB.out.drew⟩
/-- a whole number out of its bounds. -/
theorem lwhole_out (t : Bool) (x : ByteArray) (A : Option Addr) (n ca : Nat) (B : Option Addr) (m cb : Nat) (p : ByteArray) (least most q : Int) (w : World) (hg : Glob w) (hl : x.size ≤ 1073741824)
    (h : wholeN x.data.toList = .ok q) (ho : q < least ∨ most < q) :
    Calls Tryz.prog 13 #[.agg #[.int .i64 2, .bool t, .string x, .slice A n ca, .slice B m cb, .string p], .int .i64 least, .int .i64 most] w (Threw w 1 p) := by
  have HG := Lib.hid hg
  have H := Lib.hid h
  clear hg h
  by_cases h1 : q < least
  · have hd1 : decide (least ≤ q) = false := by simpa using h1
    clear ho
    go_enter Tryz.func13, Tryz.ntmps13
    go_wp2_with (first | (go_at_call 51; refine (kind_yes _ _ _ _ _ _ _ _ _ _ _ _ (by rfl)).mono ?_; rintro e w1 ⟨rfl, hb1⟩; obtain ⟨hc1, hf1⟩ := bcell hb1; have hz1 : w.heap.size < w1.heap.size := (by have := hb1.size; simp at this; omega)) | (go_at_call 52; refine (numWhole_ok x q _ (by exact HG.out.below (((Below.refl _ _).alloc (Nat.le_refl _) _).trans (hb1.mono (by simp)))) hl H.out).mono ?_; rintro e w2 ⟨rfl, hb2⟩; obtain ⟨hc2, hf2⟩ := bcell hb2))
    have b1 : Below w.heap.size w w1 := ((Below.refl _ _).alloc (Nat.le_refl _) _).trans (hb1.mono (by simp))
    have HB := Lib.hid (b1.trans (hb2.mono (by omega)))
    clear b1
    go_still_tail 13, (by kernel_rfl)
    change wpList _ _ _ _ _ w2.drew
    go_wp2_with (go_at_call 54; refine (lmust_no _ _ _ _ _ _ _ _ _ _ _ _).mono ?_; rintro e w' ⟨g, rfl, h⟩)
    exact ⟨rfl, Threw.of ⟨g, rfl, h⟩ HB.out.drew⟩
  · have hd1 : decide (least ≤ q) = true := by simp; omega
    have hd2 : decide (q ≤ most) = false := by simp; omega
    clear ho h1
    go_enter Tryz.func13, Tryz.ntmps13
    go_wp2_with (first | (go_at_call 51; refine (kind_yes _ _ _ _ _ _ _ _ _ _ _ _ (by rfl)).mono ?_; rintro e w1 ⟨rfl, hb1⟩; obtain ⟨hc1, hf1⟩ := bcell hb1; have hz1 : w.heap.size < w1.heap.size := (by have := hb1.size; simp at this; omega)) | (go_at_call 52; refine (numWhole_ok x q _ (by exact HG.out.below (((Below.refl _ _).alloc (Nat.le_refl _) _).trans (hb1.mono (by simp)))) hl H.out).mono ?_; rintro e w2 ⟨rfl, hb2⟩; obtain ⟨hc2, hf2⟩ := bcell hb2))
    have b1 : Below w.heap.size w w1 := ((Below.refl _ _).alloc (Nat.le_refl _) _).trans (hb1.mono (by simp))
    have HB := Lib.hid (b1.trans (hb2.mono (by omega)))
    clear b1
    go_still_tail 13, (by kernel_rfl)
    change wpList _ _ _ _ _ w2.drew
    go_wp2_with (go_at_call 54; refine (lmust_no _ _ _ _ _ _ _ _ _ _ _ _).mono ?_; rintro e w' ⟨g, rfl, h⟩)
    exact ⟨rfl, Threw.of ⟨g, rfl, h⟩ HB.out.drew⟩
theorem lwhole_in (t : Bool) (x : ByteArray) (A : Option Addr) (n ca : Nat) (B : Option Addr) (m cb : Nat) (p : ByteArray) (least most q : Int) (w : World) (hg : Glob w) (hl : x.size ≤ 1073741824)
    (h : wholeN x.data.toList = .ok q) (h1 : least ≤ q) (h2 : q ≤ most) :
    Calls Tryz.prog 13 #[.agg #[.int .i64 2, .bool t, .string x, .slice A n ca, .slice B m cb, .string p], .int .i64 least, .int .i64 most] w fun e w' => e = .returned (.int .i64 q) ∧ Below w.heap.size w w' := by
  have HG := Lib.hid hg
  have H := Lib.hid h
  clear hg h
  have hd1 : decide (least ≤ q) = true := by simpa using h1
  have hd2 : decide (q ≤ most) = true := by simpa using h2
  clear h1 h2
  go_enter Tryz.func13, Tryz.ntmps13
  go_wp2_with (first | (go_at_call 51; refine (kind_yes _ _ _ _ _ _ _ _ _ _ _ _ (by rfl)).mono ?_; rintro e w1 ⟨rfl, hb1⟩; obtain ⟨hc1, hf1⟩ := bcell hb1; have hz1 : w.heap.size < w1.heap.size := (by have := hb1.size; simp at this; omega)) | (go_at_call 52; refine (numWhole_ok x q _ (by exact HG.out.below (((Below.refl _ _).alloc (Nat.le_refl _) _).trans (hb1.mono (by simp)))) hl H.out).mono ?_; rintro e w2 ⟨rfl, hb2⟩; obtain ⟨hc2, hf2⟩ := bcell hb2))
  have b1 : Below w.heap.size w w1 := ((Below.refl _ _).alloc (Nat.le_refl _) _).trans (hb1.mono (by simp))
  have HB := Lib.hid (b1.trans (hb2.mono (by omega)))
  clear b1
  go_still_tail 13, (by kernel_rfl)
  change wpList _ _ _ _ _ w2.drew
  go_wp2_with (go_at_call 54; refine (lmust_yes _ _ _ _ _ _ _ _ _ _ _ _).mono ?_; rintro e w' ⟨rfl, hb3⟩)
  go_ret
  exact ⟨rfl, HB.out.drew.trans (hb3.mono HB.out.drew.size)⟩
end Go.Proofs.YtoimjnmhinfbkaaGreatDoor

namespace Go.Proofs.YtoimjnmhinfbkaaGreatDoor
open Go.RowKit
set_option maxRecDepth 100000
theorem conv_one (W : World) (c : Int) : (convert 87 9 (.slice (some ⟨W.heap.size, 0, none⟩) 1 1)).run Tryz.prog (W.alloc (.cells #[.int .u8 c] 5)) = .ok (.string ⟨#[UInt8.ofNat c.toNat]⟩) (W.alloc (.cells #[.int .u8 c] 5)) := by
  rw [run_convert_bytes_string _ 87 9 5 _ 1 1 Tryz.underlying87 Tryz.underlying5 Tryz.underlying9]
  refine (run_bytesToString (P := Tryz.prog) _ ⟨W.heap.size, 0, none⟩ 1 1 [c] ?_).trans ?_
  · simp [go_sem, loadCells, loadCellsFrom]
  · rfl
theorem u8_48 (n : Nat) : UInt8.ofNat (48 + n) = 48 + UInt8.ofNat n := by simp [UInt8.ofNat_add]
theorem dec_step (q : Nat) (h : 9 < q) : Lib.decDigits q = Lib.decDigits (q / 10) ++ [48 + UInt8.ofNat (q % 10)] := by
  rw [Lib.decDigits, dif_neg (by omega), u8_48]
theorem dec_last (q : Nat) (h : q ≤ 9) : Lib.decDigits q = [48 + UInt8.ofNat q] := by
  rw [Lib.decDigits, dif_pos (by omega), u8_48]
end Go.Proofs.YtoimjnmhinfbkaaGreatDoor

namespace Go.Proofs.YtoimjnmhinfbkaaGreatDoor
open Go.RowKit
set_option maxRecDepth 100000
theorem code_fault (g : Nat) (c : Int) (w : World) (h : w.cell? ⟨g, 0, none⟩ = some (.int .i64 c)) : Calls Tryz.prog 14 #[.iface 106 (.pointer (some ⟨g, 0, none⟩))] w fun e w' => e = .returned (.int .i64 c) ∧ w' = w := by
  have hta : ∀ w, (Instr.typeAssert (.iface 106 (.pointer (some ⟨g, 0, none⟩))) 29 106 true).run Tryz.prog w = .ok (.tuple #[.pointer (some ⟨g, 0, none⟩), .bool true]) w := fun _ => by kernel_rfl
  go_enter Tryz.func14, Tryz.ntmps14
  go_wp2
  go_ret
  exact ⟨rfl, rfl⟩
theorem where_fault (g : Nat) (s : ByteArray) (w : World) (h : w.cell? ⟨g, 1, none⟩ = some (.string s)) : Calls Tryz.prog 15 #[.iface 106 (.pointer (some ⟨g, 0, none⟩))] w fun e w' => e = .returned (.string s) ∧ w' = w := by
  have hta : ∀ w, (Instr.typeAssert (.iface 106 (.pointer (some ⟨g, 0, none⟩))) 29 106 true).run Tryz.prog w = .ok (.tuple #[.pointer (some ⟨g, 0, none⟩), .bool true]) w := fun _ => by kernel_rfl
  go_enter Tryz.func15, Tryz.ntmps15
  go_wp2
  go_ret
  exact ⟨rfl, rfl⟩
theorem row_of_heap {w : World} {b : Nat} {cs : List Value} {t : TypeId} (h : w.heap[b]? = some (.cells cs.toArray t (0, 0))) : Row w b 0 cs := fun i hi => by
  rw [cell_of_row w b _ _ t (0, 0) h]; simp [hi]
end Go.Proofs.YtoimjnmhinfbkaaGreatDoor

namespace Go.Proofs.YtoimjnmhinfbkaaGreatDoor
open Go.RowKit
set_option maxRecDepth 100000
/-! ### a text, a bool -/
theorem text_kind (k : Int) (t : Bool) (x : ByteArray) (A : Option Addr) (n ca : Nat) (B : Option Addr) (m cb : Nat) (p : ByteArray) (most : Int) (w : World) (h : (k == 3) = false) :
    Calls Tryz.prog 59 #[.agg #[.int .i64 k, .bool t, .string x, .slice A n ca, .slice B m cb, .string p], .int .i64 most] w (Threw w 11 p) := by
  go_enter Tryz.func59, Tryz.ntmps59
  go_wp2_with (go_at_call 51; refine (kind_no _ _ _ _ _ _ _ _ _ _ _ _ h).mono ?_; rintro e w' ⟨g, rfl, h⟩)
  exact ⟨rfl, Threw.of ⟨g, rfl, h⟩ ((Below.refl _ _).alloc (Nat.le_refl _) _)⟩
theorem text_long (t : Bool) (x : ByteArray) (A : Option Addr) (n ca : Nat) (B : Option Addr) (m cb : Nat) (p : ByteArray) (most : Int) (w : World) (hl : x.size ≤ 1073741824) (h : most < x.size) :
    Calls Tryz.prog 59 #[.agg #[.int .i64 3, .bool t, .string x, .slice A n ca, .slice B m cb, .string p], .int .i64 most] w (Threw w 3 p) := by
  have hd : decide ((x.size : Int) ≤ most) = false := by simpa using h
  clear h
  go_enter Tryz.func59, Tryz.ntmps59
  go_wp2_with (first | (go_at_call 51; refine (kind_yes _ _ _ _ _ _ _ _ _ _ _ _ (by rfl)).mono ?_; rintro e w1 ⟨rfl, hb1⟩; obtain ⟨hc1, hf1⟩ := bcell hb1; have hz1 : w.heap.size < w1.heap.size := (by have := hb1.size; simp at this; omega)) | (go_at_call 54; refine (lmust_no _ _ _ _ _ _ _ _ _ _ _ _).mono ?_; rintro e w' ⟨g, rfl, h⟩))
  exact ⟨rfl, Threw.of ⟨g, rfl, h⟩ (((Below.refl _ _).alloc (Nat.le_refl _) _).trans (hb1.mono (by simp)))⟩
theorem text_some (t : Bool) (x : ByteArray) (A : Option Addr) (n ca : Nat) (B : Option Addr) (m cb : Nat) (p : ByteArray) (most : Int) (w : World) (hl : x.size ≤ 1073741824) (h : (x.size : Int) ≤ most) :
    Calls Tryz.prog 59 #[.agg #[.int .i64 3, .bool t, .string x, .slice A n ca, .slice B m cb, .string p], .int .i64 most] w fun e w' => e = .returned (.string x) ∧ Below w.heap.size w w' := by
  have hd : decide ((x.size : Int) ≤ most) = true := by simpa using h
  clear h
  go_enter Tryz.func59, Tryz.ntmps59
  go_wp2_with (first | (go_at_call 51; refine (kind_yes _ _ _ _ _ _ _ _ _ _ _ _ (by rfl)).mono ?_; rintro e w1 ⟨rfl, hb1⟩; obtain ⟨hc1, hf1⟩ := bcell hb1; have hz1 : w.heap.size < w1.heap.size := (by have := hb1.size; simp at this; omega)) | (go_at_call 54; refine (lmust_yes _ _ _ _ _ _ _ _ _ _ _ _).mono ?_; rintro e w2 ⟨rfl, hb2⟩; obtain ⟨hc2, hf2⟩ := bcell hb2))
  go_ret
  exact ⟨rfl, (((Below.refl _ _).alloc (Nat.le_refl _) _).trans (hb1.mono (by simp))).trans (hb2.mono (by omega))⟩
/-! ### a field that may be -/
def V.maybe (v : V) (name : ByteArray) : Option V := match v.get name with
  | some u => if (u.kind == 0) = true then none else some u
  | none => none
set_option maxHeartbeats 800000 in
theorem maybe_none (v : V) (cs : List Value) (p name : ByteArray) (w : World) (S : Nat → Prop) (hv : v.Rep w S cs) (hb : v.bulk ≤ 4194304) (hk : v.kind = 5) (hp : p.size ≤ 1073741824) (hn : name.size ≤ 1073741824)
    (hg : v.maybe name = none) :
    Calls Tryz.prog 57 #[.agg (cs ++ [Value.string p]).toArray, .string name] w fun e w' =>
      e = .returned (.tuple #[.agg #[.int .i64 0, .bool false, .string ⟨#[]⟩, .slice none 0 0, .slice none 0 0, .string ⟨#[]⟩], .bool false]) ∧ Below w.heap.size w w' := by
  have hv2 := hv
  obtain ⟨A, ca, B, cb, rfl, -⟩ := hv.open
  have hnm := named_yes v [.int .i64 v.kind, .bool v.tr, .string v.text, .slice A v.list.length ca, .slice B v.names.length cb] p name
  have hq : (v.get name).isSome = false ∨ ((v.get name).isSome = true ∧ (((v.get name).getD V.zero).kind == 0) = true) := by
    unfold V.maybe at hg
    cases hh : v.get name with
    | none => exact .inl rfl
    | some u =>
      rw [hh] at hg
      refine .inr ⟨rfl, ?_⟩
      simp only at hg
      split at hg
      · assumption
      · cases hg
  generalize hu : (v.get name).getD V.zero = u at hnm hq
  generalize hqq : (v.get name).isSome = q at hnm hq
  have HN := Lib.hid hnm
  have HV := Lib.hid hv2
  have HK := Lib.hid hk
  clear hnm hv hv2 hk hg hu hqq
  simp only [List.cons_append, List.nil_append] at HN ⊢
  rcases hq with rfl | ⟨rfl, hk0⟩
  all_goals
    go_enter Tryz.func57, Tryz.ntmps57
    go_wp2_with (go_at_call 92; refine (HN.out _ S (by exact HV.out.agree fun b hb hlt => ⟨below_agree (((Below.refl w.heap.size w).alloc (Nat.le_refl _) _).alloc (by simp) _) b hlt, hb⟩) hb HK.out hp hn).mono ?_; rintro e w1 ⟨cs1, rfl, hrep1, hb1⟩; obtain ⟨A1, ca1, B1, cb1, rfl, -⟩ := hrep1.open; clear hrep1; have hz1 : w.heap.size + 1 < w1.heap.size := (by have := hb1.size; simp at this; omega); have hz2 : w.heap.size < w1.heap.size := (by omega); obtain ⟨hc1, hf1⟩ := bcell hb1)
    refine bodyPost_ret (v := .tuple #[.agg #[.int .i64 0, .bool false, .string ⟨#[]⟩, .slice none 0 0, .slice none 0 0, .string ⟨#[]⟩], .bool false]) (by simp [results, Tryz.results57, go_sem, hc1, hz1, hz2, Nat.lt_succ_of_lt hz1]) rfl ?_
    refine ⟨rfl, ?_⟩
    (repeat (first | with_reducible refine Below.alloc ?_ (by simp; omega) _ | with_reducible refine Below.setCell ?_ (by simp) _))
    exact (((Below.refl _ _).alloc (Nat.le_refl _) _).alloc (by simp) _).trans (hb1.mono (by simp; omega))
set_option maxHeartbeats 800000 in
theorem maybe_some (v u : V) (cs : List Value) (p name : ByteArray) (w : World) (S : Nat → Prop) (hv : v.Rep w S cs) (hb : v.bulk ≤ 4194304) (hk : v.kind = 5) (hp : p.size ≤ 1073741824) (hn : name.size ≤ 1073741824)
    (hg : v.maybe name = some u) :
    Calls Tryz.prog 57 #[.agg (cs ++ [Value.string p]).toArray, .string name] w fun e w' => ∃ cs',
      e = .returned (.tuple #[.agg (cs' ++ [Value.string (fieldPlace p name)]).toArray, .bool true]) ∧ u.Rep w' (fun b => w.heap.size ≤ b ∧ b < w'.heap.size) cs' ∧ Below w.heap.size w w' := by
  have hv2 := hv
  obtain ⟨A, ca, B, cb, rfl, -⟩ := hv.open
  have hnm := named_yes v [.int .i64 v.kind, .bool v.tr, .string v.text, .slice A v.list.length ca, .slice B v.names.length cb] p name
  have hgu : v.get name = some u ∧ (u.kind == 0) = false := by
    unfold V.maybe at hg
    cases hh : v.get name with
    | none => rw [hh] at hg; cases hg
    | some u' =>
      rw [hh] at hg
      simp only at hg
      split at hg
      · cases hg
      · cases hg
        rename_i hne; exact ⟨rfl, by simpa using hne⟩
  obtain ⟨hgu, hk0⟩ := hgu
  rw [hgu] at hnm
  simp only [Option.getD_some, Option.isSome_some, List.cons_append, List.nil_append] at hnm ⊢
  have HN := Lib.hid hnm
  have HV := Lib.hid hv2
  have HK := Lib.hid hk
  clear hnm hv hv2 hk hg hgu
  go_enter Tryz.func57, Tryz.ntmps57
  go_wp2_with (go_at_call 92; refine (HN.out _ S (by exact HV.out.agree fun b hb hlt => ⟨below_agree (((Below.refl w.heap.size w).alloc (Nat.le_refl _) _).alloc (by simp) _) b hlt, hb⟩) hb HK.out hp hn).mono ?_; rintro e w1 ⟨cs1, rfl, hrep1, hb1⟩; obtain ⟨A1, ca1, B1, cb1, rfl, -⟩ := hrep1.open; have HR1 := Lib.hid hrep1; clear hrep1; have hz1 : w.heap.size + 1 < w1.heap.size := (by have := hb1.size; simp at this; omega); have hz2 : w.heap.size < w1.heap.size := (by omega); obtain ⟨hc1, hf1⟩ := bcell hb1)
  refine bodyPost_ret (v := .tuple #[.agg #[.int .i64 u.kind, .bool u.tr, .string u.text, .slice A1 u.list.length ca1, .slice B1 u.names.length cb1, .string (fieldPlace p name)], .bool true]) (by simp [results, Tryz.results57, go_sem, hc1, hz1, hz2, Nat.lt_succ_of_lt hz1]) rfl ?_
  refine ⟨[.int .i64 u.kind, .bool u.tr, .string u.text, .slice A1 u.list.length ca1, .slice B1 u.names.length cb1], rfl, ?_, ?_⟩
  · refine HR1.out.fresh (lo := w.heap.size) (g := w.heap.size + 1) ?_ (by simp; omega) (by simp)
    (repeat (first | with_reducible refine Also.drew ?_ | with_reducible refine Also.alloc ?_ _ | with_reducible refine Also.setCell ?_ (by simp) _))
    exact Also.refl _ _
  · (repeat (first | with_reducible refine Below.alloc ?_ (by simp; omega) _ | with_reducible refine Below.setCell ?_ (by simp) _))
    exact (((Below.refl _ _).alloc (Nat.le_refl _) _).alloc (by simp) _).trans (hb1.mono (by simp; omega))
end Go.Proofs.YtoimjnmhinfbkaaGreatDoor
namespace Go.Proofs.YtoimjnmhinfbkaaGreatDoor
open Go.RowKit
set_option maxRecDepth 100000
end Go.Proofs.YtoimjnmhinfbkaaGreatDoor
namespace Go.Proofs.YtoimjnmhinfbkaaGreatDoor
open Go.RowKit
set_option maxRecDepth 100000
end Go.Proofs.YtoimjnmhinfbkaaGreatDoor
namespace Go.Proofs.YtoimjnmhinfbkaaGreatDoor
open Go.RowKit
set_option maxRecDepth 100000
end Go.Proofs.YtoimjnmhinfbkaaGreatDoor

namespace Go.Proofs.YtoimjnmhinfbkaaGreatDoor
open Go.RowKit
set_option maxRecDepth 100000
end Go.Proofs.YtoimjnmhinfbkaaGreatDoor
namespace Go.Proofs.YtoimjnmhinfbkaaGreatDoor
open Go.RowKit
set_option maxRecDepth 100000
end Go.Proofs.YtoimjnmhinfbkaaGreatDoor
namespace Go.Proofs.YtoimjnmhinfbkaaGreatDoor
open Go.RowKit
set_option maxRecDepth 100000
theorem info43 : (Tryz.prog.info? 43).map (fun i => (i.zero, i.size, i.bytes)) = some (some (.agg #[.int .i64 0, .bool false, .string ⟨#[]⟩, .slice none 0 0, .slice none 0 0]), 5, 80) := by kernel_rfl
/-- the blocks of the document's values made so far. -/
def DocS (w : World) (S : Nat → Prop) (u : Value) (wr : World) : Nat → Prop := fun b => (S b ∧ b < w.heap.size) ∨ (w.heap.size + 3 ≤ b ∧ b < wr.heap.size ∧ some b ≠ u.ownBlock)
/-- what holds at the head of Document's loop. -/
def DocInv (w : World) (S : Nat → Prop) (l : List V) (v0 v1 v2 v4 : Value) (c : Array Value) (u : Value) (j : Nat) (xs : List Value) (wr : World) : Prop :=
  Below w.heap.size w wr ∧ w.heap.size + 2 < wr.heap.size ∧ wr.heap[w.heap.size + 2]? = some (.cells #[v0, v1, v2, u, v4] 43 (0, 0)) ∧ wr.heap[w.heap.size + 1]? = some (.cells c 43 (0, 0)) ∧
    wr.ownsRow (w.heap.size + 3) 43 5 u j xs ∧ ∀ i, i < j → ∀ hi : i < l.length, (l[i]).Rep wr (DocS w S u wr) ((xs.drop (5 * i)).take 5)
theorem doc_round {w : World} {S : Nat → Prop} {l : List V} {v0 v1 v2 v4 : Value} {c : Array Value} {u : Value} {j : Nat} {xs : List Value} {wr w3 w4 : World} {o o2 : Obj} {g cap : Nat} {cs : List Value}
    (hI : DocInv w S l v0 v1 v2 v4 c u j xs wr) (hlt : j < l.length) (hb : Below (wr.alloc o).drew.heap.size (wr.alloc o).drew w3)
    (hv : (l[j]).Rep w3 (fun b => (S b ∧ b < w.heap.size) ∨ (wr.heap.size + 1 ≤ b ∧ b < w3.heap.size)) cs) (hg : (w3.alloc o2).grownBy w4 u.ownBlock)
    (hown : w4.ownsRow (w.heap.size + 3) 43 5 (.slice (some ⟨g, 0, none⟩) (j + 1) cap) (j + 1) (xs ++ cs)) (hgg : u.ownBlock = some g ∨ g = w3.heap.size + 1) :
    DocInv w S l v0 v1 v2 v4 c (.slice (some ⟨g, 0, none⟩) (j + 1) cap) (j + 1) (xs ++ cs) (w4.setCell ⟨w.heap.size + 2, 3, none⟩ (.slice (some ⟨g, 0, none⟩) (j + 1) cap)) := by
  obtain ⟨i1, i2, i3, i4, i5, i6⟩ := hI
  have hlen := i5.1
  have hs := hb.size
  simp at hs
  have hs4 : w3.heap.size + 1 ≤ w4.heap.size := by have := hg.size; simp at this; exact this
  have hown' := World.ownsRow.lt i5
  have hgl := World.ownsRow.lt hown g rfl
  have b3 : Below w.heap.size w w3 := (((i1.alloc (by omega) o).drew).trans (hb.mono (by simp; omega)))
  -- a block that was there at the round's head, and is not the row's
  have key : ∀ b, b < wr.heap.size → b ≠ w.heap.size + 2 → some b ≠ u.ownBlock → (w4.setCell ⟨w.heap.size + 2, 3, none⟩ (.slice (some ⟨g, 0, none⟩) (j + 1) cap)).heap[b]? = wr.heap[b]? := fun b h1 h2 h3 => by
    rw [Below.heap_setCell _ _ _ b h2, hg.block b (by simp; omega) h3, Below.heap_alloc w3 o2 b (by omega)]
    exact (hb.block b (by simp; omega)).trans (Below.heap_alloc wr o b h1)
  have key3 : ∀ b, b < w3.heap.size → b ≠ w.heap.size + 2 → some b ≠ u.ownBlock → (w4.setCell ⟨w.heap.size + 2, 3, none⟩ (.slice (some ⟨g, 0, none⟩) (j + 1) cap)).heap[b]? = w3.heap[b]? := fun b h1 h2 h3 => by
    rw [Below.heap_setCell _ _ _ b h2, hg.block b (by simp; omega) h3, Below.heap_alloc w3 o2 b (by omega)]
  have hno : ∀ b, b < w.heap.size + 3 → some b ≠ u.ownBlock := fun b hb e => by have := (hown' b e.symm).1; omega
  have h43 : w4.heap[w.heap.size + 2]? = some (.cells #[v0, v1, v2, u, v4] 43 (0, 0)) := by
    rw [hg.block _ (by simp; omega) (hno _ (by omega)), Below.heap_alloc w3 o2 _ (by omega)]
    exact (hb.block _ (by simp; omega)).trans ((Below.heap_alloc wr o _ i2).trans i3)
  refine ⟨?_, by rw [setCell_size]; omega, ?_, ?_, ?_, ?_⟩
  · exact ((b3.alloc (by omega) o2).grown hg (by simp; omega) (fun k hk => by have := (hown' k hk).1; omega)).setCell (by simp only; omega) _
  · simpa using blk_set h43 3 (.slice (some ⟨g, 0, none⟩) (j + 1) cap)
  · rw [key _ (by omega) (by omega) (hno _ (by omega))]; exact i4
  · obtain ⟨ho1, ho2⟩ := hown
    refine ⟨ho1, ho2.imp id ?_⟩
    rintro ⟨g', cap', cur, e1, e2, e3, e4⟩
    refine ⟨g', cap', cur, e1, e2, ?_, e4⟩
    rw [Below.heap_setCell _ _ _ g' (by simp only; omega)]
    exact e3
  · intro i hi hil
    by_cases hij : i < j
    · have hx : ((xs ++ cs).drop (5 * i)).take 5 = (xs.drop (5 * i)).take 5 := by
        rw [List.drop_append_of_le_length (by omega), List.take_append_of_le_length (by rw [List.length_drop]; omega)]
      rw [hx]
      refine (i6 i hij hil).agree ?_
      rintro b (⟨h1, h2⟩ | ⟨h1, h2, h3⟩) hlt'
      · exact ⟨key b (by omega) (by omega) (hno b (by omega)), .inl ⟨h1, h2⟩⟩
      · refine ⟨key b h2 (by omega) h3, .inr ⟨h1, by rw [setCell_size]; omega, ?_⟩⟩
        rcases hgg with h | h
        · rw [h] at h3; exact h3
        · intro e; have : b = g := by simpa [Value.ownBlock] using e
          omega
    · obtain rfl : i = j := by omega
      have hx : ((xs ++ cs).drop (5 * i)).take 5 = cs := by
        rw [show 5 * i = xs.length by omega, List.drop_left, List.take_of_length_le (by have := hv.len; omega)]
      rw [hx]
      refine hv.agree ?_
      rintro b (⟨h1, h2⟩ | ⟨h1, h2⟩) hlt'
      · exact ⟨key3 b (by omega) (by omega) (hno b (by omega)), .inl ⟨h1, h2⟩⟩
      · refine ⟨key3 b h2 (by omega) (fun e => by have := (hown' b e.symm).2; omega), .inr ⟨by omega, by rw [setCell_size]; omega, ?_⟩⟩
        intro e
        have hbg : b = g := by simpa [Value.ownBlock] using e
        rcases hgg with h | h
        · have := (hown' g h).2; omega
        · omega
end Go.Proofs.YtoimjnmhinfbkaaGreatDoor

namespace Go.Proofs.YtoimjnmhinfbkaaGreatDoor
open Go.RowKit
set_option maxRecDepth 100000
def DocRes (v : V) (w : World) (S : Nat → Prop) (e : Ending) (w' : World) : Prop :=
  ∃ cs', e = .returned (.agg cs'.toArray) ∧ v.Rep w' (fun b => (S b ∧ b < w.heap.size) ∨ (w.heap.size ≤ b ∧ b < w'.heap.size)) cs' ∧ Below w.heap.size w w'
theorem doc_done {w : World} {S : Nat → Prop} {k : Int} {t : Bool} {x : ByteArray} {l : List V} {ns : List ByteArray} {A' B : Option Addr} {c' cb : Nat} {xs : List Value} {wr W' : World}
    (hal : Also (fun b => b ≠ w.heap.size + 1) wr W') (hB : Below w.heap.size w wr) (hcc : l.length ≤ c') (hcb : ns.length ≤ cb) (hS : Strs w S B ns)
    (hrr : (A' = none ∧ l.length = 0) ∨ ∃ g, A' = some ⟨g, 0, none⟩ ∧ w.heap.size + 3 ≤ g ∧ g < wr.heap.size ∧ Row wr g 0 xs ∧ ∀ o, wr.frozen? ⟨g, o, none⟩ = false)
    (h6 : ∀ i, i < l.length → ∀ hi : i < l.length, (l[i]).Rep wr (DocS w S (.slice A' l.length c') wr) ((xs.drop (5 * i)).take 5)) :
    (V.mk k t x l ns).Rep W' (fun b => (S b ∧ b < w.heap.size) ∨ (w.heap.size ≤ b ∧ b < W'.heap.size)) [.int .i64 k, .bool t, .string x, .slice A' l.length c', .slice B ns.length cb] := by
  have hs := hB.size
  have hs2 := hal.size
  refine ⟨A', c', B, cb, rfl, hcc, hcb, hS.agree fun b hb hlt => ⟨(hal.block b (by omega) (by omega)).trans (hB.block b hlt), .inl ⟨hb, hlt⟩⟩, ?_⟩
  rcases hrr with ⟨rfl, h0⟩ | ⟨g, rfl, hg1, hg2, hg3, -⟩
  · exact .inl (List.eq_nil_of_length_eq_zero h0)
  · refine .inr ⟨g, 0, rfl, .inr ⟨by omega, by omega⟩, V.Reps.mk fun i hi => ⟨_, ?_, (h6 i hi hi).agree ?_⟩⟩
    · exact (row_part hg3 (5 * i) 5).agree (hal.block g (by omega) hg2)
    · rintro b (⟨h1, h2⟩ | ⟨h1, h2, h3⟩) hlt
      · exact ⟨hal.block b (by omega) (by omega), .inl ⟨h1, h2⟩⟩
      · exact ⟨hal.block b (by omega) h2, .inr ⟨by omega, by omega⟩⟩
theorem keep_frozen {wr w3 : World} {o o2 : Obj} (hb : Below (wr.alloc o).drew.heap.size (wr.alloc o).drew w3) {a : Addr} (hlt : a.block < wr.heap.size) (h : wr.frozen? a = false) : (w3.alloc o2).frozen? a = false := by
  have hs := hb.size
  simp at hs
  rw [← h]
  exact World.frozen?_of_block ((Below.heap_alloc w3 o2 _ (by omega)).trans ((hb.block _ (by simp; omega)).trans (Below.heap_alloc wr o _ hlt)))
set_option maxHeartbeats 1600000 in
theorem doc_step (k : Int) (t : Bool) (x : ByteArray) (l : List V) (ns : List ByteArray)
    (ih : ∀ v ∈ l, ∀ (cs : List Value) (w : World) (S : Nat → Prop), v.bulk ≤ 4194304 → v.Rep w S cs → Calls Tryz.prog 17 #[.agg cs.toArray] w (DocRes v w S))
    (A : Option Addr) (ca : Nat) (B : Option Addr) (cb : Nat) (w : World) (S : Nat → Prop) (hcb : ns.length ≤ cb)
    (hS : Strs w S B ns) (hl : l = [] ∨ ∃ b o, A = some ⟨b, o, none⟩ ∧ S b ∧ V.Reps w S b o l) (hn : ns.length ≤ 4194304) (hll : l.length ≤ 4194304) (hlb : ∀ v ∈ l, v.bulk ≤ 4194304) :
    Calls Tryz.prog 17 #[.agg #[.int .i64 k, .bool t, .string x, .slice A l.length ca, .slice B ns.length cb]] w (DocRes (.mk k t x l ns) w S) := by
  have IH := Lib.hid ih
  have HL := Lib.hid hl
  have HS := Lib.hid hS
  have HLB := Lib.hid hlb
  clear ih hl hS hlb
  obtain ⟨i0, hi0, hz0, hzz1, hzz2⟩ := info_parts info43
  go_enter Tryz.func17, Tryz.ntmps17
  go_wp2_with fail
  go_loopw [18] (fun i wr => ∃ (j : Nat) (u : Value) (xs : List Value), j ≤ l.length ∧ i = .int .i64 j ∧ DocInv w S l (.int .i64 k) (.bool t) (.string x) (.slice B ns.length cb) #[.int .i64 0, .bool false, .string ⟨#[]⟩, .slice none 0 0, .slice none 0 0] u j xs wr) (fun i _ => l.length - (intOf i).toNat)
  case atStart =>
    refine ⟨0, .slice none 0 0, [], Nat.zero_le _, rfl, ?_, ?_, ?_, ?_, World.ownsRow_nil _ _ _ _, fun i hi => absurd hi (Nat.not_lt_zero _)⟩
    · exact (((Below.refl w.heap.size w).alloc (Nat.le_refl _) _).alloc (by simp) _).alloc (by simp; omega) _
    · simp
    · exact alloc_at (by simp)
    · rw [alloc_before (by simp)]; exact alloc_at (by simp)
  case round =>
    obtain ⟨j, u, xs, hj, rfl, hI⟩ := hrel
    have HI := Lib.hid hI
    obtain ⟨i1, i2, i3, i4, i5, i6⟩ := hI
    have HB := Lib.hid i1
    have hown := Lib.hid i5
    have k3 := cell_of_row wr (w.heap.size + 2) 3 _ 43 (0, 0) i3
    have kf : wr.frozen? ⟨w.heap.size + 2, 3, none⟩ = false := by simp [World.frozen?, i3]
    simp at k3
    have hj0 : (0 : Int) ≤ (j : Int) := Int.natCast_nonneg _
    by_cases hlt : j < l.length
    · have hj1 : (j : Int) < (l.length : Int) := by omega
      obtain ⟨b, o, rfl, hSb, hr⟩ := HL.out.resolve_left (by rintro rfl; simp at hlt)
      obtain ⟨cs, hr0, hv⟩ := hr.get j hlt
      have hblt : b < w.heap.size := hr0.lt (by have := hv.len; rintro rfl; simp at this)
      have hr1 : Row wr b (o + 5 * j) cs := hr0.agree (HB.out.block b hblt)
      have HV := Lib.hid hv
      obtain ⟨A1, ca1, B1, cb1, rfl, -⟩ := hv.open
      have e0 := hr1 0 (by simp)
      have e1 := hr1 1 (by simp)
      have e2 := hr1 2 (by simp)
      have e3 := hr1 3 (by simp)
      have e4 := hr1 4 (by simp)
      simp at e0 e1 e2 e3 e4
      rw [Nat.mul_comm] at e0 e1 e2 e3 e4
      have hno : some (w.heap.size + 2) ≠ u.ownBlock := fun e => by have := (World.ownsRow.lt i5 _ e.symm).1; omega
      have HNO := Lib.hid hno
      clear hr hr0 hr1 hv i1 i3 i4 i5 i6 hno
      go_wp2_with fail
      go_region_law (first | (refine step_append_lies _ (by rfl) _ _ _ (by rfl) (w.heap.size + 3) 43 i0 _ 5 80 Tryz.underlying41 hi0 hz0 hzz1 hzz2 rfl (by omega) u j xs (by rfl) ((own_below ((hown.out.alloc _)) (Below.mono ⟨hb3.os, hb3.tape, hb3.output, hb3.size, hb3.block⟩ (Nat.le_refl _))).alloc _) ⟨w3.heap.size, 0, none⟩ 1 1 [.int .i64 (l[j]).kind, .bool (l[j]).tr, .string (l[j]).text, .slice A3 (l[j]).list.length ca3, .slice B3 (l[j]).names.length cb3] (by rfl) (by rfl) (World.news_of_block (cs := #[.int .i64 (l[j]).kind, .bool (l[j]).tr, .string (l[j]).text, .slice A3 (l[j]).list.length ca3, .slice B3 (l[j]).names.length cb3]) (t := 43) (fr := (0, 0)) (heap_alloc_new w3 _)) (by simp [Value.oneCell']) (by omega) (by unfold maxLen; omega) (by omega) (by have := hb3.size; simp at this ⊢; omega) (w3.heap.size + 1) (by simp) ?_; intro gg cap w4 hown4 hgrow4 hat4 hlt4; have g3 := grow_keep hgrow4 kk3 HNO.out; have gf3 := (World.grownBy.frozen_far hgrow4 ⟨w.heap.size + 2, 3, none⟩ (by simp; omega) HNO.out).trans (keep_frozen hb3 i2 kf)) | (go_simp; go_at_call 17; refine (IH.out _ (List.getElem_mem hlt) _ _ (fun b => S b ∧ b < w.heap.size) (HLB.out _ (List.getElem_mem hlt)) (HV.out.agree fun b hb hlt => ⟨((HB.out.alloc HB.out.size _).drew).block b hlt, hb, hlt⟩)).mono ?_; rintro e w3 ⟨cs3, rfl, hrep3, hb3⟩; have hz3 : wr.heap.size + 1 ≤ w3.heap.size := (by have := hb3.size; simp at this; omega); have kk3 := keep_cell hb3 k3; have nn1 : ¬ w.heap.size + 2 = w3.heap.size := (by omega); have nn2 : w.heap.size + 2 < w3.heap.size := (by omega); obtain ⟨A3, ca3, B3, cb3, rfl, -⟩ := hrep3.open; have HR3 := Lib.hid hrep3; clear hrep3))
      all_goals
        have HN := Lib.hid (doc_round HI.out hlt hb3 (HR3.out.agree fun b hb _ => ⟨rfl, hb.imp (fun h => h.1) (fun h => ⟨by have := h.1; simpa using this, h.2⟩)⟩) hgrow4 hown4 hat4)
        clear hb3 hgrow4 hown4 hat4 hlt4 g3 gf3 kk3 HR3
        go_wp2
        go_roundw
        case rel => exact ⟨j + 1, _, _, hlt, by go_num, HN.out⟩
        case measure => simp [intOf]; omega
    · have hj3 : ¬ (j : Int) < (l.length : Int) := by omega
      obtain ⟨A', c', rfl, hcc, hlen, hrr⟩ := own_row i5
      have HRR := Lib.hid hrr
      have hx2 := fun o => cell_of_row wr (w.heap.size + 2) o _ 43 (0, 0) i3
      have hx1 := fun o => cell_of_row wr (w.heap.size + 1) o _ 43 (0, 0) i4
      have hz1 : ∀ o, wr.frozen? ⟨w.heap.size + 1, o, none⟩ = false := fun o => by simp [World.frozen?, i4]
      have I6 := Lib.hid i6
      obtain rfl : j = l.length := by omega
      clear hrr k3 kf i1 i3 i4 i5 i6 HI hown
      go_wp2_with fail
      refine bodyPost_ret (v := .agg #[.int .i64 k, .bool t, .string x, .slice A' l.length c', .slice B ns.length cb]) (by simp [results, Tryz.results17, go_sem, hx1]) rfl ?_
      refine ⟨[.int .i64 k, .bool t, .string x, .slice A' l.length c', .slice B ns.length cb], rfl, ?_, ?_⟩
      · refine doc_done ?_ HB.out hcc hcb HS.out HRR.out I6.out
        (repeat (first | with_reducible refine Also.setCell ?_ (by simp) _))
        exact Also.refl _ _
      · (repeat (first | with_reducible refine Below.setCell ?_ (by simp) _))
        exact HB.out
/-- Document: the same value, as the document's: its lists in new memory. -/
theorem document_any (v : V) : ∀ (cs : List Value) (w : World) (S : Nat → Prop), v.bulk ≤ 4194304 → v.Rep w S cs → Calls Tryz.prog 17 #[.agg cs.toArray] w (DocRes v w S) := by
  induction v using V.ind with
  | h k t x l n ih =>
    intro cs w S hb ⟨A, ca, B, cb, hcs, h1, h2, h3, h4⟩
    subst hcs
    simp only [V.bulk] at hb
    have hn := names_length n
    have hl := V.bulks_length l
    exact doc_step k t x l n ih A ca B cb w S h2 h3 h4 (by omega) (by omega) fun v hv => by have := V.bulks_mem hv; omega
end Go.Proofs.YtoimjnmhinfbkaaGreatDoor
namespace Go.Proofs.YtoimjnmhinfbkaaGreatDoor
open Go.RowKit
set_option maxRecDepth 100000
set_option maxHeartbeats 1600000 in
theorem same_step (k : Int) (t : Bool) (x : ByteArray) (l : List V) (ns : List ByteArray)
    (ih : ∀ v ∈ l, ∀ (cs cs' : List Value) (w : World) (S S' : Nat → Prop), v.bulk ≤ 4194304 → v.Rep w S cs → v.Rep w S' cs' →
      Calls Tryz.prog 21 #[.agg cs.toArray, .agg cs'.toArray] w fun e w' => e = .returned (.bool true) ∧ Below w.heap.size w w')
    (A : Option Addr) (ca : Nat) (B : Option Addr) (cb : Nat) (A' : Option Addr) (ca' : Nat) (B' : Option Addr) (cb' : Nat) (w : World) (S S' : Nat → Prop)
    (hS : Strs w S B ns) (hS' : Strs w S' B' ns) (hl : l = [] ∨ ∃ b o, A = some ⟨b, o, none⟩ ∧ S b ∧ V.Reps w S b o l) (hl' : l = [] ∨ ∃ b o, A' = some ⟨b, o, none⟩ ∧ S' b ∧ V.Reps w S' b o l)
    (hn : ns.length ≤ 4194304) (hll : l.length ≤ 4194304) (hlb : ∀ v ∈ l, v.bulk ≤ 4194304) :
    Calls Tryz.prog 21 #[.agg #[.int .i64 k, .bool t, .string x, .slice A l.length ca, .slice B ns.length cb], .agg #[.int .i64 k, .bool t, .string x, .slice A' l.length ca', .slice B' ns.length cb']] w
      fun e w' => e = .returned (.bool true) ∧ Below w.heap.size w w' := by
  have IH := Lib.hid ih
  have HL := Lib.hid hl
  have HL' := Lib.hid hl'
  have HS := Lib.hid hS
  have HS' := Lib.hid hS'
  have HLB := Lib.hid hlb
  clear ih hl hl' hS hS' hlb
  go_enter Tryz.func21, Tryz.ntmps21
  go_wp2_with fail
  generalize hw1 : (w.alloc (.cells #[.int .i64 k, .bool t, .string x, .slice A l.length ca, .slice B ns.length cb] 43)).alloc (.cells #[.int .i64 k, .bool t, .string x, .slice A' l.length ca', .slice B' ns.length cb'] 43) = w1
  have hb1 : Below w.heap.size w w1 := by rw [← hw1]; exact ((Below.refl _ _).alloc (Nat.le_refl _) _).alloc (by simp) _
  have hz1 : w1.heap.size = w.heap.size + 2 := by rw [← hw1]; simp
  have p3 : w1.cell? ⟨w.heap.size, 3, none⟩ = some (.slice A l.length ca) := by rw [← hw1]; simp [go_sem]
  have p4 : w1.cell? ⟨w.heap.size, 4, none⟩ = some (.slice B ns.length cb) := by rw [← hw1]; simp [go_sem]
  have q3 : w1.cell? ⟨w.heap.size + 1, 3, none⟩ = some (.slice A' l.length ca') := by rw [← hw1]; simp [go_sem]
  have q4 : w1.cell? ⟨w.heap.size + 1, 4, none⟩ = some (.slice B' ns.length cb') := by rw [← hw1]; simp [go_sem]
  have HB1 := Lib.hid hb1
  have HZ1 := Lib.hid hz1
  clear hw1 hb1 hz1
  go_loopw [47] (fun i wr => ∃ j : Nat, j ≤ ns.length ∧ i = .int .i64 j ∧ Below w1.heap.size w1 wr) (fun i _ => ns.length - (intOf i).toNat)
  case atStart => exact ⟨0, Nat.zero_le _, rfl, Below.refl _ _⟩
  case round =>
    obtain ⟨j, hj, rfl, hb⟩ := hrel
    have HB := Lib.hid hb
    have hj0 : (0 : Int) ≤ (j : Int) := Int.natCast_nonneg _
    have r3 : wr.cell? ⟨w.heap.size, 3, none⟩ = some (.slice A l.length ca) := ((bcell hb).1 _ _ (by rw [HZ1.out]; omega)).trans p3
    have r4 : wr.cell? ⟨w.heap.size, 4, none⟩ = some (.slice B ns.length cb) := ((bcell hb).1 _ _ (by rw [HZ1.out]; omega)).trans p4
    have s3 : wr.cell? ⟨w.heap.size + 1, 3, none⟩ = some (.slice A' l.length ca') := ((bcell hb).1 _ _ (by rw [HZ1.out]; omega)).trans q3
    have s4 : wr.cell? ⟨w.heap.size + 1, 4, none⟩ = some (.slice B' ns.length cb') := ((bcell hb).1 _ _ (by rw [HZ1.out]; omega)).trans q4
    clear hb
    by_cases hlt : j < ns.length
    · have hj1 : (j : Int) < (ns.length : Int) := by omega
      obtain ⟨b, o, rfl, -, hbl, hc⟩ := HS.out.cell j hlt
      obtain ⟨b', o', rfl, -, hbl', hc'⟩ := HS'.out.cell j hlt
      have hcj : wr.cell? ⟨b, o + j, none⟩ = some (.string ns[j]) := (cell_of_heap ((HB.out.block b (by rw [HZ1.out]; omega)).trans (HB1.out.block b hbl))).trans (hc j hlt)
      have hcj' : wr.cell? ⟨b', o' + j, none⟩ = some (.string ns[j]) := (cell_of_heap ((HB.out.block b' (by rw [HZ1.out]; omega)).trans (HB1.out.block b' hbl'))).trans (hc' j hlt)
      clear hc hc' r3 s3 p3 p4 q3 q4
      go_wp2_with fail
      go_region
      go_wp2
      go_roundw
      case rel => exact ⟨j + 1, hlt, by go_num, HB.out.drew⟩
      case measure => simp [intOf]; omega
    · have hj2 : ¬ (j : Int) < (ns.length : Int) := by omega
      clear p4 q4 r4 s4
      go_wp2_with fail
      go_loopw [65] (fun i wq => ∃ m : Nat, m ≤ l.length ∧ i = .int .i64 m ∧ Below w1.heap.size w1 wq) (fun i _ => l.length - (intOf i).toNat)
      case atStart => exact ⟨0, Nat.zero_le _, rfl, HB.out⟩
      case round =>
        obtain ⟨m, hm, rfl, hb2⟩ := hrel
        have HB2 := Lib.hid hb2
        have hm0 : (0 : Int) ≤ (m : Int) := Int.natCast_nonneg _
        have u3 : wr.cell? ⟨w.heap.size, 3, none⟩ = some (.slice A l.length ca) := ((bcell hb2).1 _ _ (by rw [HZ1.out]; omega)).trans p3
        have v3 : wr.cell? ⟨w.heap.size + 1, 3, none⟩ = some (.slice A' l.length ca') := ((bcell hb2).1 _ _ (by rw [HZ1.out]; omega)).trans q3
        clear hb2 r3 s3 p3 q3
        by_cases hlt : m < l.length
        · have hm1 : (m : Int) < (l.length : Int) := by omega
          obtain ⟨b, o, rfl, hSb, hr⟩ := HL.out.resolve_left (by rintro rfl; simp at hlt)
          obtain ⟨b', o', rfl, hSb', hr'⟩ := HL'.out.resolve_left (by rintro rfl; simp at hlt)
          obtain ⟨cs, hr0, hv⟩ := hr.get m hlt
          obtain ⟨cs', hr0', hv'⟩ := hr'.get m hlt
          have hbl : b < w.heap.size := hr0.lt (by have := hv.len; rintro rfl; simp at this)
          have hbl' : b' < w.heap.size := hr0'.lt (by have := hv'.len; rintro rfl; simp at this)
          have keep : ∀ b, b < w.heap.size → wr.heap[b]? = w.heap[b]? := fun b hb => (HB2.out.block b (by rw [HZ1.out]; omega)).trans (HB1.out.block b hb)
          have hr1 : Row wr b (o + 5 * m) cs := hr0.agree (keep b hbl)
          have hr1' : Row wr b' (o' + 5 * m) cs' := hr0'.agree (keep b' hbl')
          have HV := Lib.hid hv
          have HV' := Lib.hid hv'
          have KEEP := Lib.hid keep
          obtain ⟨A1, ca1, B1, cb1, rfl, -⟩ := hv.open
          obtain ⟨A2, ca2, B2, cb2, rfl, -⟩ := hv'.open
          have e0 := hr1 0 (by simp)
          have e1 := hr1 1 (by simp)
          have e2 := hr1 2 (by simp)
          have e3 := hr1 3 (by simp)
          have e4 := hr1 4 (by simp)
          have f0 := hr1' 0 (by simp)
          have f1 := hr1' 1 (by simp)
          have f2 := hr1' 2 (by simp)
          have f3 := hr1' 3 (by simp)
          have f4 := hr1' 4 (by simp)
          simp at e0 e1 e2 e3 e4 f0 f1 f2 f3 f4
          rw [Nat.mul_comm] at e0 e1 e2 e3 e4 f0 f1 f2 f3 f4
          clear hr hr' hr0 hr0' hr1 hr1' hv hv' keep
          go_wp2_with fail
          go_still_tail 10, (by kernel_rfl)
          change wpList _ _ _ _ _ wr.drew
          go_wp2_with (go_at_call 21; (refine (IH.out _ (List.getElem_mem hlt) _ _ wr.drew S S' (HLB.out _ (List.getElem_mem hlt)) (V.Rep.agree (w' := wr.drew) (fun b hb hlt => ⟨KEEP.out b hlt, hb⟩) _ HV.out) (V.Rep.agree (w' := wr.drew) (fun b hb hlt => ⟨KEEP.out b hlt, hb⟩) _ HV'.out)).mono ?_); rintro e w3 ⟨rfl, hb3⟩)
          go_roundw
          case rel => exact ⟨m + 1, hlt, by go_num, HB2.out.drew.trans (hb3.mono HB2.out.size)⟩
          case measure => simp [intOf]; omega
        · have hm2 : ¬ (m : Int) < (l.length : Int) := by omega
          go_wp2
          go_ret
          exact ⟨rfl, HB1.out.trans (HB2.out.mono HB1.out.size)⟩
/-- Same: the same value twice. -/
theorem same_any (v : V) : ∀ (cs cs' : List Value) (w : World) (S S' : Nat → Prop), v.bulk ≤ 4194304 → v.Rep w S cs → v.Rep w S' cs' →
    Calls Tryz.prog 21 #[.agg cs.toArray, .agg cs'.toArray] w fun e w' => e = .returned (.bool true) ∧ Below w.heap.size w w' := by
  induction v using V.ind with
  | h k t x l n ih =>
    intro cs cs' w S S' hb ⟨A, ca, B, cb, hcs, h1, h2, h3, h4⟩ ⟨A', ca', B', cb', hcs', h1', h2', h3', h4'⟩
    subst hcs hcs'
    simp only [V.bulk] at hb
    have hn := names_length n
    have hl := V.bulks_length l
    exact same_step k t x l n ih A ca B cb A' ca' B' cb' w S S' h3 h3' h4 h4' (by omega) (by omega) fun v hv => by have := V.bulks_mem hv; omega
end Go.Proofs.YtoimjnmhinfbkaaGreatDoor
namespace Go.Proofs.YtoimjnmhinfbkaaGreatDoor
open Go.RowKit
set_option maxRecDepth 100000
theorem conv_cell (W : World) (g : Nat) (c : Int) (h : W.cell? ⟨g, 0, none⟩ = some (.int .u8 c)) : (convert 87 9 (.slice (some ⟨g, 0, none⟩) 1 1)).run Tryz.prog W = .ok (.string ⟨#[UInt8.ofNat c.toNat]⟩) W := by
  rw [run_convert_bytes_string _ 87 9 5 _ 1 1 Tryz.underlying87 Tryz.underlying5 Tryz.underlying9]
  refine (run_bytesToString (P := Tryz.prog) _ ⟨g, 0, none⟩ 1 1 [c] ?_).trans ?_
  · simp [go_sem, loadCells, loadCellsFrom, h]
  · rfl
end Go.Proofs.YtoimjnmhinfbkaaGreatDoor

namespace Go.Proofs.YtoimjnmhinfbkaaGreatDoor
open Go.RowKit
/-- of a sign's bytes behind the first so many: the document's way. -/
def signGo (least : Int) (many : Nat) : Nat → Int → List UInt8 → Int × Int
  | 0, x, _ => if x < least ∨ 1114111 < x ∨ (55296 ≤ x ∧ x ≤ 57343) then (0, 0) else (x, many)
  | k + 1, x, l => if x * 64 ^ (k + 1) + 64 ^ (k + 1) - 1 < least ∨ 1114111 < x * 64 ^ (k + 1) ∨ (55296 ≤ x * 64 ^ (k + 1) ∧ x * 64 ^ (k + 1) + 64 ^ (k + 1) - 1 ≤ 57343) then (0, 0) else
    match l with
    | [] => (0, -1)
    | b :: t => if b.toNat < 128 ∨ 192 ≤ b.toNat then (0, 0) else signGo least many k (x * 64 + b.toNat - 128) t
def signL : List UInt8 → Int × Int
  | [] => (0, -1)
  | c :: t => if c.toNat < 128 then (c.toNat, 1)
    else if 192 ≤ c.toNat ∧ c.toNat < 224 then signGo 128 2 1 (c.toNat - 192) t
    else if 224 ≤ c.toNat ∧ c.toNat < 240 then signGo 2048 3 2 (c.toNat - 224) t
    else if 240 ≤ c.toNat ∧ c.toNat < 248 then signGo 65536 4 3 (c.toNat - 240) t
    else (0, 0)
/-- the document's sign and the model's decoder. -/
def SD (n : Nat) (p : Int × Int) (q : Nat × Nat) : Prop := (p.2 ≤ 0 ∧ q = (65533, 1)) ∨ (0 < p.2 ∧ p = ((q.1 : Int), (q.2 : Int)) ∧ q.2 ≤ n ∧ ¬ (q.1 = 65533 ∧ q.2 = 1))
theorem SD.bad {n : Nat} {p : Int × Int} {q : Nat × Nat} (h : p.2 ≤ 0) (hq : q = (65533, 1)) : SD n p q := .inl ⟨h, hq⟩
theorem SD.good {n : Nat} {x : Int} {m r : Nat} (hm : 0 < m) (hn : m ≤ n) (hx : x = r) (h : ¬ (r = 65533 ∧ m = 1)) : SD n (x, (m : Int)) (r, m) := .inr ⟨by simp; omega, by rw [hx], hn, h⟩
theorem dec2 (n c b1 b2 b3 : Nat) (hc : 192 ≤ c ∧ c < 224) : Lib.decodeN n c b1 b2 b3 = if (1 < n ∧ 128 ≤ b1 ∧ b1 < 192) ∧ 128 ≤ (c - 192) * 64 + (b1 - 128) then ((c - 192) * 64 + (b1 - 128), 2) else (65533, 1) := by
  unfold Lib.decodeN
  rw [if_neg (by omega)]
  by_cases h : 1 < n ∧ 128 ≤ b1 ∧ b1 < 192
  · rw [if_pos ⟨by omega, h.1, by omega⟩]
    have e : c % 32 * 64 + b1 % 64 = (c - 192) * 64 + (b1 - 128) := by omega
    rw [e]
    by_cases h2 : 128 ≤ (c - 192) * 64 + (b1 - 128)
    · rw [if_pos (by omega), if_pos ⟨h, h2⟩]
    · rw [if_neg (by omega), if_neg (fun x => h2 x.2)]
  · rw [if_neg (by omega), if_neg (by omega), if_neg (by omega), if_neg (fun x => h x.1)]
theorem dec3 (n c b1 b2 b3 : Nat) (hc : 224 ≤ c ∧ c < 240) : Lib.decodeN n c b1 b2 b3 = if ((1 < n ∧ 128 ≤ b1 ∧ b1 < 192) ∧ 2 < n ∧ 128 ≤ b2 ∧ b2 < 192) ∧ 2048 ≤ (c - 224) * 4096 + (b1 - 128) * 64 + (b2 - 128) ∧ ¬ (55296 ≤ (c - 224) * 4096 + (b1 - 128) * 64 + (b2 - 128) ∧ (c - 224) * 4096 + (b1 - 128) * 64 + (b2 - 128) ≤ 57343) then ((c - 224) * 4096 + (b1 - 128) * 64 + (b2 - 128), 3) else (65533, 1) := by
  unfold Lib.decodeN
  rw [if_neg (by omega), if_neg (by omega)]
  by_cases h : (1 < n ∧ 128 ≤ b1 ∧ b1 < 192) ∧ 2 < n ∧ 128 ≤ b2 ∧ b2 < 192
  · rw [if_pos ⟨by omega, ⟨h.1.1, by omega⟩, h.2.1, by omega⟩]
    have e : c % 16 * 4096 + b1 % 64 * 64 + b2 % 64 = (c - 224) * 4096 + (b1 - 128) * 64 + (b2 - 128) := by omega
    rw [e]
    generalize he : (c - 224) * 4096 + (b1 - 128) * 64 + (b2 - 128) = y
    by_cases h2 : 2048 ≤ y ∧ ¬ (55296 ≤ y ∧ y ≤ 57343)
    · rw [if_pos (by omega), if_pos ⟨h, h2⟩]
    · rw [if_neg (by omega), if_neg (fun x => h2 x.2)]
  · rw [if_neg (by omega), if_neg (by omega), if_neg (fun x => h x.1)]
theorem dec4 (n c b1 b2 b3 : Nat) (hc : 240 ≤ c ∧ c < 248) : Lib.decodeN n c b1 b2 b3 = if ((1 < n ∧ 128 ≤ b1 ∧ b1 < 192) ∧ (2 < n ∧ 128 ≤ b2 ∧ b2 < 192) ∧ 3 < n ∧ 128 ≤ b3 ∧ b3 < 192) ∧ 65536 ≤ (c - 240) * 262144 + (b1 - 128) * 4096 + (b2 - 128) * 64 + (b3 - 128) ∧ (c - 240) * 262144 + (b1 - 128) * 4096 + (b2 - 128) * 64 + (b3 - 128) ≤ 1114111 then ((c - 240) * 262144 + (b1 - 128) * 4096 + (b2 - 128) * 64 + (b3 - 128), 4) else (65533, 1) := by
  unfold Lib.decodeN
  rw [if_neg (by omega), if_neg (by omega), if_neg (by omega)]
  by_cases h : (1 < n ∧ 128 ≤ b1 ∧ b1 < 192) ∧ (2 < n ∧ 128 ≤ b2 ∧ b2 < 192) ∧ 3 < n ∧ 128 ≤ b3 ∧ b3 < 192
  · rw [if_pos ⟨by omega, ⟨h.1.1, by omega⟩, ⟨h.2.1.1, by omega⟩, h.2.2.1, by omega⟩]
    have e : c % 8 * 262144 + b1 % 64 * 4096 + b2 % 64 * 64 + b3 % 64 = (c - 240) * 262144 + (b1 - 128) * 4096 + (b2 - 128) * 64 + (b3 - 128) := by omega
    rw [e]
    generalize he : (c - 240) * 262144 + (b1 - 128) * 4096 + (b2 - 128) * 64 + (b3 - 128) = y
    by_cases h2 : 65536 ≤ y ∧ y ≤ 1114111
    · rw [if_pos (by omega), if_pos ⟨h, h2⟩]
    · rw [if_neg (by omega), if_neg (fun x => h2 x.2)]
  · rw [if_neg (by omega), if_neg (fun x => h x.1)]
theorem sign_decode (c b1 b2 b3 : UInt8) (t : List UInt8) (n : Nat) (hn : n = t.length + 1) (h1 : t.getD 0 0 = b1) (h2 : t.getD 1 0 = b2) (h3 : t.getD 2 0 = b3) :
    SD n (signL (c :: t)) (Lib.decodeN n c.toNat b1.toNat b2.toNat b3.toNat) := by
  have hc := c.toNat_lt
  have hb1 := b1.toNat_lt
  have hb2 := b2.toNat_lt
  have hb3 := b3.toNat_lt
  show SD n (if c.toNat < 128 then ((c.toNat : Int), 1)
    else if 192 ≤ c.toNat ∧ c.toNat < 224 then signGo 128 2 1 (c.toNat - 192) t
    else if 224 ≤ c.toNat ∧ c.toNat < 240 then signGo 2048 3 2 (c.toNat - 224) t
    else if 240 ≤ c.toNat ∧ c.toNat < 248 then signGo 65536 4 3 (c.toNat - 240) t
    else (0, 0)) _
  by_cases a1 : c.toNat < 128
  · rw [if_pos a1]
    have : Lib.decodeN n c.toNat b1.toNat b2.toNat b3.toNat = (c.toNat, 1) := by unfold Lib.decodeN; rw [if_pos a1]
    rw [this]
    exact SD.good (m := 1) (by omega) (by omega) rfl (by omega)
  rw [if_neg a1]
  by_cases a2 : 192 ≤ c.toNat ∧ c.toNat < 224
  · rw [if_pos a2, dec2 _ _ _ _ _ a2]
    match t, hn, h1 with
    | [], hn, h1 =>
      rw [if_neg (by simp at hn; omega)]
      refine SD.bad ?_ rfl
      simp only [signGo]
      split <;> simp
    | d :: t, hn, h1 =>
      have h1' : d = b1 := by simpa using h1
      subst h1'
      simp only [List.length_cons] at hn
      simp only [signGo]
      by_cases g : ((1 < n ∧ 128 ≤ d.toNat ∧ d.toNat < 192) ∧ 128 ≤ (c.toNat - 192) * 64 + (d.toNat - 128))
      · rw [if_pos g, if_neg (by omega), if_neg (by omega), if_neg (by omega)]
        exact SD.good (m := 2) (by omega) (by omega) (by omega) (by omega)
      · rw [if_neg g]
        refine SD.bad ?_ rfl
        repeat' split
        all_goals first | (simp; done) | (exfalso; omega)
  rw [if_neg a2]
  by_cases a3 : 224 ≤ c.toNat ∧ c.toNat < 240
  · rw [if_pos a3, dec3 _ _ _ _ _ a3]
    match t, hn, h1, h2 with
    | [], hn, _, _ =>
      rw [if_neg (by simp at hn; omega)]
      refine SD.bad ?_ rfl
      simp only [signGo]
      split <;> simp
    | [d], hn, h1, _ =>
      rw [if_neg (by simp at hn; omega)]
      refine SD.bad ?_ rfl
      simp only [signGo]
      repeat' split
      all_goals simp
    | d :: e :: t, hn, h1, h2 =>
      have h1' : d = b1 := by simpa using h1
      have h2' : e = b2 := by simpa using h2
      subst h1' h2'
      simp only [List.length_cons] at hn
      simp only [signGo]
      by_cases g : ((1 < n ∧ 128 ≤ d.toNat ∧ d.toNat < 192) ∧ 2 < n ∧ 128 ≤ e.toNat ∧ e.toNat < 192) ∧ 2048 ≤ (c.toNat - 224) * 4096 + (d.toNat - 128) * 64 + (e.toNat - 128) ∧ ¬ (55296 ≤ (c.toNat - 224) * 4096 + (d.toNat - 128) * 64 + (e.toNat - 128) ∧ (c.toNat - 224) * 4096 + (d.toNat - 128) * 64 + (e.toNat - 128) ≤ 57343)
      · rw [if_pos g, if_neg (by omega), if_neg (by omega), if_neg (by omega), if_neg (by omega), if_neg (by omega)]
        exact SD.good (m := 3) (by omega) (by omega) (by omega) (by omega)
      · rw [if_neg g]
        refine SD.bad ?_ rfl
        repeat' split
        all_goals first | (simp; done) | (exfalso; omega)
  rw [if_neg a3]
  by_cases a4 : 240 ≤ c.toNat ∧ c.toNat < 248
  · rw [if_pos a4, dec4 _ _ _ _ _ a4]
    match t, hn, h1, h2, h3 with
    | [], hn, _, _, _ =>
      rw [if_neg (by simp at hn; omega)]
      refine SD.bad ?_ rfl
      simp only [signGo]
      split <;> simp
    | [d], hn, _, _, _ =>
      rw [if_neg (by simp at hn; omega)]
      refine SD.bad ?_ rfl
      simp only [signGo]
      repeat' split
      all_goals simp
    | [d, e], hn, _, _, _ =>
      rw [if_neg (by simp at hn; omega)]
      refine SD.bad ?_ rfl
      simp only [signGo]
      repeat' split
      all_goals simp
    | d :: e :: f :: t, hn, h1, h2, h3 =>
      have h1' : d = b1 := by simpa using h1
      have h2' : e = b2 := by simpa using h2
      have h3' : f = b3 := by simpa using h3
      subst h1' h2' h3'
      simp only [List.length_cons] at hn
      simp only [signGo]
      by_cases g : ((1 < n ∧ 128 ≤ d.toNat ∧ d.toNat < 192) ∧ (2 < n ∧ 128 ≤ e.toNat ∧ e.toNat < 192) ∧ 3 < n ∧ 128 ≤ f.toNat ∧ f.toNat < 192) ∧ 65536 ≤ (c.toNat - 240) * 262144 + (d.toNat - 128) * 4096 + (e.toNat - 128) * 64 + (f.toNat - 128) ∧ (c.toNat - 240) * 262144 + (d.toNat - 128) * 4096 + (e.toNat - 128) * 64 + (f.toNat - 128) ≤ 1114111
      · rw [if_pos g, if_neg (by omega), if_neg (by omega), if_neg (by omega), if_neg (by omega), if_neg (by omega), if_neg (by omega), if_neg (by omega)]
        exact SD.good (m := 4) (by omega) (by omega) (by omega) (by omega)
      · rw [if_neg g]
        refine SD.bad ?_ rfl
        repeat' split
        all_goals first | (simp; done) | (exfalso; omega)
  rw [if_neg a4]
  refine SD.bad (by simp) ?_
  unfold Lib.decodeN
  rw [if_neg a1, if_neg (by omega), if_neg (by omega), if_neg (by omega)]
end Go.Proofs.YtoimjnmhinfbkaaGreatDoor

namespace Go.Proofs.YtoimjnmhinfbkaaGreatDoor
open Go.RowKit
set_option maxRecDepth 100000
theorem pow_up (x : Int) (d : Nat) : x * 64 ^ (d + 1) = x * 64 ^ d * 64 := by rw [Int.pow_succ, Int.mul_assoc]
theorem pow_hi (x : Int) (d : Nat) : (x * 64 ^ d + 64 ^ d - 1) * 64 + 63 = x * 64 ^ (d + 1) + 64 ^ (d + 1) - 1 := by
  rw [pow_up, Int.pow_succ]; omega
theorem pow_le {x B : Int} {d j : Nat} (hx : 0 ≤ x) (hd : d ≤ j) (h : x * 64 ^ j + 64 ^ j ≤ B) : x * 64 ^ d + 64 ^ d ≤ B ∧ 0 ≤ x * 64 ^ d ∧ (0 : Int) < 64 ^ d := by
  obtain ⟨k, rfl⟩ := Nat.exists_eq_add_of_le hd
  have h0 : (0 : Int) < 64 ^ d := Int.pow_pos (by omega)
  have h1 : (0 : Int) < 64 ^ k := Int.pow_pos (by omega)
  have hn : 0 ≤ x * 64 ^ d := Int.mul_nonneg hx (by omega)
  refine ⟨?_, hn, h0⟩
  rw [Int.pow_add, ← Int.mul_assoc, ← Int.add_mul] at h
  have : (x * 64 ^ d + 64 ^ d) * 1 ≤ (x * 64 ^ d + 64 ^ d) * 64 ^ k := Int.mul_le_mul_of_nonneg_left (by omega) (by omega)
  omega
/-- a test of the document's. -/
def offB (least a b : Int) : Bool := decide (b < least) || decide (1114111 < a) || (decide (55296 ≤ a) && decide (b ≤ 57343))
theorem signGo_off {least : Int} {m k : Nat} {x : Int} {l : List UInt8} (h : offB least (x * 64 ^ (k + 1)) (x * 64 ^ (k + 1) + 64 ^ (k + 1) - 1) = true) : signGo least m (k + 1) x l = (0, 0) := by
  simp only [offB, Bool.or_eq_true, Bool.and_eq_true, decide_eq_true_eq] at h
  simp only [signGo]
  rw [if_pos (by omega)]
theorem signGo_on {least : Int} {m k : Nat} {x : Int} {l : List UInt8} (h : offB least (x * 64 ^ (k + 1)) (x * 64 ^ (k + 1) + 64 ^ (k + 1) - 1) = false) : signGo least m (k + 1) x l = match l with
    | [] => (0, -1)
    | b :: t => if b.toNat < 128 ∨ 192 ≤ b.toNat then (0, 0) else signGo least m k (x * 64 + b.toNat - 128) t := by
  have h' : ¬ (x * 64 ^ (k + 1) + 64 ^ (k + 1) - 1 < least ∨ 1114111 < x * 64 ^ (k + 1) ∨ (55296 ≤ x * 64 ^ (k + 1) ∧ x * 64 ^ (k + 1) + 64 ^ (k + 1) - 1 ≤ 57343)) := fun hh => by
    have : offB least (x * 64 ^ (k + 1)) (x * 64 ^ (k + 1) + 64 ^ (k + 1) - 1) = true := by
      simp only [offB, Bool.or_eq_true, Bool.and_eq_true, decide_eq_true_eq]; omega
    rw [h] at this; cases this
  simp only [signGo]
  rw [if_neg h']
  all_goals (cases l <;> rfl)
theorem signGo_end_off {least : Int} {m : Nat} {x : Int} {l : List UInt8} (h : offB least x x = true) : signGo least m 0 x l = (0, 0) := by
  simp only [offB, Bool.or_eq_true, Bool.and_eq_true, decide_eq_true_eq] at h
  simp only [signGo]
  rw [if_pos (by omega)]
theorem signGo_end_on {least : Int} {m : Nat} {x : Int} {l : List UInt8} (h : offB least x x = false) : signGo least m 0 x l = (x, (m : Int)) := by
  have h' : ¬ (x < least ∨ 1114111 < x ∨ (55296 ≤ x ∧ x ≤ 57343)) := fun hh => by
    have : offB least x x = true := by simp only [offB, Bool.or_eq_true, Bool.and_eq_true, decide_eq_true_eq]; omega
    rw [h] at this; cases this
  simp only [signGo]
  rw [if_neg h']
theorem off_cases {least a b : Int} (h : offB least a b = true) : b < least ∨ 1114111 < a ∨ (55296 ≤ a ∧ b ≤ 57343) := by
  simp only [offB, Bool.or_eq_true, Bool.and_eq_true, decide_eq_true_eq] at h; omega
theorem on_cases {least a b : Int} (h : offB least a b = false) : ¬ b < least ∧ ¬ 1114111 < a ∧ (¬ 55296 ≤ a ∨ ¬ b ≤ 57343) := by
  have : ¬ (offB least a b = true) := by rw [h]; simp
  simp only [offB, Bool.or_eq_true, Bool.and_eq_true, decide_eq_true_eq] at this; omega
def signV (p : Int × Int) : Value := .tuple #[.int .i64 p.1, .int .i64 p.2]
end Go.Proofs.YtoimjnmhinfbkaaGreatDoor

namespace Go.Proofs.YtoimjnmhinfbkaaGreatDoor
open Go.RowKit
set_option maxRecDepth 100000
set_option maxHeartbeats 4000000 in
theorem sign_2 (c : UInt8) (t : List UInt8) (w : World) (hl : t.length ≤ 1073741824) (h1 : 192 ≤ c.toNat) (h2 : c.toNat < 224) : Calls Tryz.prog 173 #[.string ⟨(c :: t).toArray⟩] w fun e w' => e = .returned (signV (signGo 128 2 1 (c.toNat - 192) t)) ∧ w' = w := by
  generalize hr : signGo 128 2 1 (c.toNat - 192) t = r
  have HR := Lib.hid hr
  clear hr
  generalize hgs : (⟨(c :: t).toArray⟩ : ByteArray) = s
  have hsz : s.size = t.length + 1 := by rw [← hgs]; show (c :: t).length = _; simp
  have hz : 0 < s.size := by omega
  have g0 : s[0]'hz = c := by subst hgs; rfl
  have gx : ∀ i, ∀ h : i < t.length, ∀ h' : i + 1 < s.size, s[i + 1]'h' = t[i] := fun i h h' => by subst hgs; rw [ba_get _ _ (by simp; omega)]; simp
  clear hgs
  have hs1 : s.size ≤ 1073741825 := by omega
  have c1 : (192 : Int) ≤ ((s[0]'hz).toNat : Int) := by rw [g0]; omega
  have c2 : ((s[0]'hz).toNat : Int) < 224 := by rw [g0]; omega
  have hnz : ((s.size : Int) == 0) = false := by rw [beq_eq_false_iff_ne]; omega
  have hzi : (0 : Int) < (s.size : Int) := by omega
  have HG0 := Lib.hid g0
  have HGX := Lib.hid gx
  have HSZ := Lib.hid hsz
  clear g0 gx hsz h1 h2
  go_enter Tryz.func173, Tryz.ntmps173
  go_wp2_with fail
  go_loop [6, 8] (fun x i => ∃ (n : Nat) (y : Int), 1 ≤ n ∧ n ≤ 2 ∧ i = .int .i64 n ∧ x = .int .i64 y ∧ 0 ≤ y ∧ y * 64 ^ (2 - n) + 64 ^ (2 - n) ≤ 2097152 ∧ n ≤ t.length + 1 ∧ r = signGo 128 2 (2 - n) y (t.drop (n - 1))) (fun _ i => 2 - (intOf i).toNat)
  case atStart => exact ⟨1, _, by omega, by omega, rfl, rfl, by omega, by simp only [Nat.reduceSub, Int.reducePow]; omega, by omega, by rw [← HR.out, HG0.out]; rfl⟩
  case round =>
    obtain ⟨n, y, hn1, hn2, rfl, rfl, hy0, hy1, hnl, hrr⟩ := hrel
    have HRR := Lib.hid hrr
    have HY := Lib.hid hy1
    have hy2 : y ≤ 2097152 := by have := (pow_le (d := 0) hy0 (by omega) hy1).1; simp at this; omega
    clear hrr hy1
    by_cases hlt : n < 2
    · go_wp2_with fail
      go_loop [9, 10, 11] (fun a b k => ∃ d : Nat, n + d ≤ 2 ∧ k = .int .i64 (n + d : Nat) ∧ a = .int .i64 (y * 64 ^ d) ∧ b = .int .i64 (y * 64 ^ d + 64 ^ d - 1)) (fun _ _ k => 2 - (intOf k).toNat)
      case atStart => exact ⟨0, by omega, by simp, by simp, by simp⟩
      case round =>
        obtain ⟨d, hd, rfl, rfl, rfl⟩ := hrel
        have hp := pow_le (d := d) hy0 (show d ≤ 2 - n by omega) HY.out
        have hu1 := Lib.hid (pow_up y d)
        have hu2 := Lib.hid (pow_hi y d)
        by_cases hd2 : n + d < 2
        · have hd3 : ((n + d : Nat) : Int) < 2 := by omega
          generalize hA : y * 64 ^ d = A at *
          generalize hB : (64 : Int) ^ d = B at *
          have HA := Lib.hid hA
          have HB := Lib.hid hB
          clear hA hB
          obtain ⟨hp1, hp2, hp3⟩ := hp
          go_wp2
          go_round
          case rel => exact ⟨d + 1, by omega, by go_num, by rw [hu1.out], by rw [← hu2.out]⟩
          case measure => simp [intOf]; omega
        · obtain rfl : d = 2 - n := by omega
          have hd3 : ¬ ((n + (2 - n) : Nat) : Int) < 2 := by omega
          obtain ⟨k, hk⟩ : ∃ k, 2 - n = k + 1 := ⟨2 - n - 1, by omega⟩
          have hoff := signGo_off (least := 128) (m := 2) (k := k) (x := y) (l := t.drop (n - 1))
          have hon := signGo_on (least := 128) (m := 2) (k := k) (x := y) (l := t.drop (n - 1))
          have hrr := HRR.out
          rw [hk] at hp hrr ⊢
          rw [← hrr] at hoff hon
          have HOFF := Lib.hid hoff
          have HON := Lib.hid hon
          obtain ⟨hp1, hp2, hp3⟩ := hp
          have hyk := HY.out
          rw [hk, pow_up, Int.pow_succ] at hyk
          have hnext : ∀ b : Int, 128 ≤ b → b < 192 → 0 ≤ y * 64 + b - 128 ∧ (y * 64 + b - 128) * 64 ^ k + 64 ^ k ≤ 2097152 := fun b hb1 hb2 => by
            have h0 : (0 : Int) < 64 ^ k := Int.pow_pos (by omega)
            refine ⟨by omega, ?_⟩
            have : (y * 64 + b - 128 + 1) * 64 ^ k ≤ (y * 64 + 64) * 64 ^ k := Int.mul_le_mul_of_nonneg_right (by omega) (by omega)
            rw [Int.add_mul, Int.one_mul] at this
            have e : (y * 64 + 64) * 64 ^ k = y * 64 ^ k * 64 + 64 ^ k * 64 := by rw [Int.add_mul, Int.mul_assoc, Int.mul_comm 64 (64 ^ k), ← Int.mul_assoc]
            omega
          have HNEXT := Lib.hid hnext
          clear hoff hon hrr hu1 hu2 hyk hnext
          generalize hA : y * 64 ^ (k + 1) = A at *
          generalize hB : (64 : Int) ^ (k + 1) = B at *
          cases hof : offB 128 A (A + B - 1) with
          | true =>
            have hres := Lib.hid (HOFF.out hof)
            have hc := off_cases hof
            clear hof hA hB
            by_cases q1 : A + B - 1 < 128
            · go_wp2
              go_ret2
              exact ⟨by rw [hres.out]; rfl, rfl⟩
            · by_cases q2 : 1114111 < A
              · go_wp2
                go_ret2
                exact ⟨by rw [hres.out]; rfl, rfl⟩
              · have q3 : 55296 ≤ A := by omega
                have q4 : A + B - 1 ≤ 57343 := by omega
                first
                  | (exfalso; omega)
                  | (go_wp2
                     go_ret2
                     exact ⟨by rw [hres.out]; rfl, rfl⟩)
          | false =>
            have hres := HON.out hof
            have hc := on_cases hof
            obtain ⟨q1, q2, q34⟩ := hc
            have hn0 : (0 : Int) ≤ (n : Int) := by omega
            clear hof hA hB
            by_cases hlen : n < t.length + 1
            · have hns : n < s.size := by rw [HSZ.out]; exact hlen
              have hnI : (n : Int) < (s.size : Int) := by omega
              have hb : s[n]'hns = t[n - 1] := by
                have := HGX.out (n - 1) (by omega) (by rw [HSZ.out]; omega)
                simpa [show n - 1 + 1 = n by omega] using this
              have hdr : t.drop (n - 1) = t[n - 1] :: t.drop n := by
                rw [List.drop_eq_getElem_cons (by omega)]
                congr 2
                omega
              rw [hdr] at hres
              simp only [] at hres
              rw [← hb] at hres
              have HRES := Lib.hid hres
              clear hres hb hdr
              have hu := (s[n]'hns).toNat_lt
              by_cases b1 : (s[n]'hns).toNat < 128
              · have hr0 := Lib.hid (show r = (0, 0) by rw [HRES.out, if_pos (.inl b1)])
                have b1' : ((s[n]'hns).toNat : Int) < 128 := by omega
                rcases q34 with q3 | q4
                · go_wp2
                  go_ret2
                  exact ⟨by rw [hr0.out]; rfl, rfl⟩
                · by_cases q3 : 55296 ≤ A
                  all_goals
                    go_wp2
                    go_ret2
                    exact ⟨by rw [hr0.out]; rfl, rfl⟩
              · by_cases b2 : 192 ≤ (s[n]'hns).toNat
                · have hr0 := Lib.hid (show r = (0, 0) by rw [HRES.out, if_pos (.inr b2)])
                  have b1' : ¬ ((s[n]'hns).toNat : Int) < 128 := by omega
                  have b2' : 192 ≤ ((s[n]'hns).toNat : Int) := by omega
                  rcases q34 with q3 | q4
                  · go_wp2
                    go_ret2
                    exact ⟨by rw [hr0.out]; rfl, rfl⟩
                  · by_cases q3 : 55296 ≤ A
                    all_goals
                      go_wp2
                      go_ret2
                      exact ⟨by rw [hr0.out]; rfl, rfl⟩
                · have hr0 := Lib.hid (show r = signGo 128 2 k (y * 64 + (s[n]'hns).toNat - 128) (t.drop n) by rw [HRES.out, if_neg (by omega)])
                  have b1' : 128 ≤ ((s[n]'hns).toNat : Int) := by omega
                  have b2' : ((s[n]'hns).toNat : Int) < 192 := by omega
                  have hnx := HNEXT.out _ b1' b2'
                  have HNX := Lib.hid hnx
                  have hnx1 := hnx.1
                  clear hnx
                  rcases q34 with q3 | q4
                  · go_wp2
                    go_round
                    case rel => exact ⟨n + 1, _, by omega, by omega, by go_num, rfl, hnx1, by rw [show 2 - (n + 1) = k by omega]; exact HNX.out.2, by omega, by rw [show 2 - (n + 1) = k by omega]; exact hr0.out⟩
                    case measure => simp [intOf]; omega
                  · by_cases q3 : 55296 ≤ A
                    all_goals
                      go_wp2
                      go_round
                      case rel => exact ⟨n + 1, _, by omega, by omega, by go_num, rfl, hnx1, by rw [show 2 - (n + 1) = k by omega]; exact HNX.out.2, by omega, by rw [show 2 - (n + 1) = k by omega]; exact hr0.out⟩
                      case measure => simp [intOf]; omega
            · have hdr : t.drop (n - 1) = [] := List.drop_eq_nil_of_le (by omega)
              rw [hdr] at hres
              have hr0 := Lib.hid (show r = (0, -1) from hres)
              have hnI : ¬ (n : Int) < (s.size : Int) := by have := HSZ.out; omega
              have hnI2 : (s.size : Int) ≤ (n : Int) := by omega
              clear hres hdr
              rcases q34 with q3 | q4
              · go_wp2
                go_ret2
                exact ⟨by rw [hr0.out]; rfl, rfl⟩
              · by_cases q3 : 55296 ≤ A
                all_goals
                  go_wp2
                  go_ret2
                  exact ⟨by rw [hr0.out]; rfl, rfl⟩
    · obtain rfl : n = 2 := by omega
      have hrr := HRR.out
      rw [Nat.sub_self] at hrr
      have hoff := signGo_end_off (least := 128) (m := 2) (x := y) (l := t.drop (2 - 1))
      have hon := signGo_end_on (least := 128) (m := 2) (x := y) (l := t.drop (2 - 1))
      rw [← hrr] at hoff hon
      have HOFF := Lib.hid hoff
      have HON := Lib.hid hon
      clear hoff hon hrr
      cases hof : offB 128 y y with
      | true =>
        have hres := Lib.hid (HOFF.out hof)
        have hc := off_cases hof
        clear hof
        by_cases q1 : y < 128
        · go_wp2
          go_ret2
          exact ⟨by rw [hres.out]; rfl, rfl⟩
        · by_cases q2 : 1114111 < y
          · go_wp2
            go_ret2
            exact ⟨by rw [hres.out]; rfl, rfl⟩
          · have q3 : 55296 ≤ y := by omega
            have q4 : y ≤ 57343 := by omega
            first
              | (exfalso; omega)
              | (go_wp2
                 go_ret2
                 exact ⟨by rw [hres.out]; rfl, rfl⟩)
      | false =>
        have hres := Lib.hid (HON.out hof)
        obtain ⟨q1, q2, q34⟩ := on_cases hof
        clear hof
        rcases q34 with q3 | q4
        · go_wp2
          go_ret2
          exact ⟨by rw [hres.out]; rfl, rfl⟩
        · by_cases q3 : 55296 ≤ y
          all_goals
            go_wp2
            go_ret2
            exact ⟨by rw [hres.out]; rfl, rfl⟩
end Go.Proofs.YtoimjnmhinfbkaaGreatDoor

namespace Go.Proofs.YtoimjnmhinfbkaaGreatDoor
open Go.RowKit
set_option maxRecDepth 100000
set_option maxHeartbeats 4000000 in
theorem sign_3 (c : UInt8) (t : List UInt8) (w : World) (hl : t.length ≤ 1073741824) (h1 : 224 ≤ c.toNat) (h2 : c.toNat < 240) : Calls Tryz.prog 173 #[.string ⟨(c :: t).toArray⟩] w fun e w' => e = .returned (signV (signGo 2048 3 2 (c.toNat - 224) t)) ∧ w' = w := by
  generalize hr : signGo 2048 3 2 (c.toNat - 224) t = r
  have HR := Lib.hid hr
  clear hr
  generalize hgs : (⟨(c :: t).toArray⟩ : ByteArray) = s
  have hsz : s.size = t.length + 1 := by rw [← hgs]; show (c :: t).length = _; simp
  have hz : 0 < s.size := by omega
  have g0 : s[0]'hz = c := by subst hgs; rfl
  have gx : ∀ i, ∀ h : i < t.length, ∀ h' : i + 1 < s.size, s[i + 1]'h' = t[i] := fun i h h' => by subst hgs; rw [ba_get _ _ (by simp; omega)]; simp
  clear hgs
  have hs1 : s.size ≤ 1073741825 := by omega
  have c1 : (224 : Int) ≤ ((s[0]'hz).toNat : Int) := by rw [g0]; omega
  have c2 : ((s[0]'hz).toNat : Int) < 240 := by rw [g0]; omega
  have hnz : ((s.size : Int) == 0) = false := by rw [beq_eq_false_iff_ne]; omega
  have hzi : (0 : Int) < (s.size : Int) := by omega
  have HG0 := Lib.hid g0
  have HGX := Lib.hid gx
  have HSZ := Lib.hid hsz
  clear g0 gx hsz h1 h2
  go_enter Tryz.func173, Tryz.ntmps173
  go_wp2_with fail
  go_loop [6, 8] (fun x i => ∃ (n : Nat) (y : Int), 1 ≤ n ∧ n ≤ 3 ∧ i = .int .i64 n ∧ x = .int .i64 y ∧ 0 ≤ y ∧ y * 64 ^ (3 - n) + 64 ^ (3 - n) ≤ 2097152 ∧ n ≤ t.length + 1 ∧ r = signGo 2048 3 (3 - n) y (t.drop (n - 1))) (fun _ i => 3 - (intOf i).toNat)
  case atStart => exact ⟨1, _, by omega, by omega, rfl, rfl, by omega, by simp only [Nat.reduceSub, Int.reducePow]; omega, by omega, by rw [← HR.out, HG0.out]; rfl⟩
  case round =>
    obtain ⟨n, y, hn1, hn2, rfl, rfl, hy0, hy1, hnl, hrr⟩ := hrel
    have HRR := Lib.hid hrr
    have HY := Lib.hid hy1
    have hy2 : y ≤ 2097152 := by have := (pow_le (d := 0) hy0 (by omega) hy1).1; simp at this; omega
    clear hrr hy1
    by_cases hlt : n < 3
    · go_wp2_with fail
      go_loop [9, 10, 11] (fun a b k => ∃ d : Nat, n + d ≤ 3 ∧ k = .int .i64 (n + d : Nat) ∧ a = .int .i64 (y * 64 ^ d) ∧ b = .int .i64 (y * 64 ^ d + 64 ^ d - 1)) (fun _ _ k => 3 - (intOf k).toNat)
      case atStart => exact ⟨0, by omega, by simp, by simp, by simp⟩
      case round =>
        obtain ⟨d, hd, rfl, rfl, rfl⟩ := hrel
        have hp := pow_le (d := d) hy0 (show d ≤ 3 - n by omega) HY.out
        have hu1 := Lib.hid (pow_up y d)
        have hu2 := Lib.hid (pow_hi y d)
        by_cases hd2 : n + d < 3
        · have hd3 : ((n + d : Nat) : Int) < 3 := by omega
          generalize hA : y * 64 ^ d = A at *
          generalize hB : (64 : Int) ^ d = B at *
          have HA := Lib.hid hA
          have HB := Lib.hid hB
          clear hA hB
          obtain ⟨hp1, hp2, hp3⟩ := hp
          go_wp2
          go_round
          case rel => exact ⟨d + 1, by omega, by go_num, by rw [hu1.out], by rw [← hu2.out]⟩
          case measure => simp [intOf]; omega
        · obtain rfl : d = 3 - n := by omega
          have hd3 : ¬ ((n + (3 - n) : Nat) : Int) < 3 := by omega
          obtain ⟨k, hk⟩ : ∃ k, 3 - n = k + 1 := ⟨3 - n - 1, by omega⟩
          have hoff := signGo_off (least := 2048) (m := 3) (k := k) (x := y) (l := t.drop (n - 1))
          have hon := signGo_on (least := 2048) (m := 3) (k := k) (x := y) (l := t.drop (n - 1))
          have hrr := HRR.out
          rw [hk] at hp hrr ⊢
          rw [← hrr] at hoff hon
          have HOFF := Lib.hid hoff
          have HON := Lib.hid hon
          obtain ⟨hp1, hp2, hp3⟩ := hp
          have hyk := HY.out
          rw [hk, pow_up, Int.pow_succ] at hyk
          have hnext : ∀ b : Int, 128 ≤ b → b < 192 → 0 ≤ y * 64 + b - 128 ∧ (y * 64 + b - 128) * 64 ^ k + 64 ^ k ≤ 2097152 := fun b hb1 hb2 => by
            have h0 : (0 : Int) < 64 ^ k := Int.pow_pos (by omega)
            refine ⟨by omega, ?_⟩
            have : (y * 64 + b - 128 + 1) * 64 ^ k ≤ (y * 64 + 64) * 64 ^ k := Int.mul_le_mul_of_nonneg_right (by omega) (by omega)
            rw [Int.add_mul, Int.one_mul] at this
            have e : (y * 64 + 64) * 64 ^ k = y * 64 ^ k * 64 + 64 ^ k * 64 := by rw [Int.add_mul, Int.mul_assoc, Int.mul_comm 64 (64 ^ k), ← Int.mul_assoc]
            omega
          have HNEXT := Lib.hid hnext
          clear hoff hon hrr hu1 hu2 hyk hnext
          generalize hA : y * 64 ^ (k + 1) = A at *
          generalize hB : (64 : Int) ^ (k + 1) = B at *
          cases hof : offB 2048 A (A + B - 1) with
          | true =>
            have hres := Lib.hid (HOFF.out hof)
            have hc := off_cases hof
            clear hof hA hB
            by_cases q1 : A + B - 1 < 2048
            · go_wp2
              go_ret2
              exact ⟨by rw [hres.out]; rfl, rfl⟩
            · by_cases q2 : 1114111 < A
              · go_wp2
                go_ret2
                exact ⟨by rw [hres.out]; rfl, rfl⟩
              · have q3 : 55296 ≤ A := by omega
                have q4 : A + B - 1 ≤ 57343 := by omega
                first
                  | (exfalso; omega)
                  | (go_wp2
                     go_ret2
                     exact ⟨by rw [hres.out]; rfl, rfl⟩)
          | false =>
            have hres := HON.out hof
            have hc := on_cases hof
            obtain ⟨q1, q2, q34⟩ := hc
            have hn0 : (0 : Int) ≤ (n : Int) := by omega
            clear hof hA hB
            by_cases hlen : n < t.length + 1
            · have hns : n < s.size := by rw [HSZ.out]; exact hlen
              have hnI : (n : Int) < (s.size : Int) := by omega
              have hb : s[n]'hns = t[n - 1] := by
                have := HGX.out (n - 1) (by omega) (by rw [HSZ.out]; omega)
                simpa [show n - 1 + 1 = n by omega] using this
              have hdr : t.drop (n - 1) = t[n - 1] :: t.drop n := by
                rw [List.drop_eq_getElem_cons (by omega)]
                congr 2
                omega
              rw [hdr] at hres
              simp only [] at hres
              rw [← hb] at hres
              have HRES := Lib.hid hres
              clear hres hb hdr
              have hu := (s[n]'hns).toNat_lt
              by_cases b1 : (s[n]'hns).toNat < 128
              · have hr0 := Lib.hid (show r = (0, 0) by rw [HRES.out, if_pos (.inl b1)])
                have b1' : ((s[n]'hns).toNat : Int) < 128 := by omega
                rcases q34 with q3 | q4
                · go_wp2
                  go_ret2
                  exact ⟨by rw [hr0.out]; rfl, rfl⟩
                · by_cases q3 : 55296 ≤ A
                  all_goals
                    go_wp2
                    go_ret2
                    exact ⟨by rw [hr0.out]; rfl, rfl⟩
              · by_cases b2 : 192 ≤ (s[n]'hns).toNat
                · have hr0 := Lib.hid (show r = (0, 0) by rw [HRES.out, if_pos (.inr b2)])
                  have b1' : ¬ ((s[n]'hns).toNat : Int) < 128 := by omega
                  have b2' : 192 ≤ ((s[n]'hns).toNat : Int) := by omega
                  rcases q34 with q3 | q4
                  · go_wp2
                    go_ret2
                    exact ⟨by rw [hr0.out]; rfl, rfl⟩
                  · by_cases q3 : 55296 ≤ A
                    all_goals
                      go_wp2
                      go_ret2
                      exact ⟨by rw [hr0.out]; rfl, rfl⟩
                · have hr0 := Lib.hid (show r = signGo 2048 3 k (y * 64 + (s[n]'hns).toNat - 128) (t.drop n) by rw [HRES.out, if_neg (by omega)])
                  have b1' : 128 ≤ ((s[n]'hns).toNat : Int) := by omega
                  have b2' : ((s[n]'hns).toNat : Int) < 192 := by omega
                  have hnx := HNEXT.out _ b1' b2'
                  have HNX := Lib.hid hnx
                  have hnx1 := hnx.1
                  clear hnx
                  rcases q34 with q3 | q4
                  · go_wp2
                    go_round
                    case rel => exact ⟨n + 1, _, by omega, by omega, by go_num, rfl, hnx1, by rw [show 3 - (n + 1) = k by omega]; exact HNX.out.2, by omega, by rw [show 3 - (n + 1) = k by omega]; exact hr0.out⟩
                    case measure => simp [intOf]; omega
                  · by_cases q3 : 55296 ≤ A
                    all_goals
                      go_wp2
                      go_round
                      case rel => exact ⟨n + 1, _, by omega, by omega, by go_num, rfl, hnx1, by rw [show 3 - (n + 1) = k by omega]; exact HNX.out.2, by omega, by rw [show 3 - (n + 1) = k by omega]; exact hr0.out⟩
                      case measure => simp [intOf]; omega
            · have hdr : t.drop (n - 1) = [] := List.drop_eq_nil_of_le (by omega)
              rw [hdr] at hres
              have hr0 := Lib.hid (show r = (0, -1) from hres)
              have hnI : ¬ (n : Int) < (s.size : Int) := by have := HSZ.out; omega
              have hnI2 : (s.size : Int) ≤ (n : Int) := by omega
              clear hres hdr
              rcases q34 with q3 | q4
              · go_wp2
                go_ret2
                exact ⟨by rw [hr0.out]; rfl, rfl⟩
              · by_cases q3 : 55296 ≤ A
                all_goals
                  go_wp2
                  go_ret2
                  exact ⟨by rw [hr0.out]; rfl, rfl⟩
    · obtain rfl : n = 3 := by omega
      have hrr := HRR.out
      rw [Nat.sub_self] at hrr
      have hoff := signGo_end_off (least := 2048) (m := 3) (x := y) (l := t.drop (3 - 1))
      have hon := signGo_end_on (least := 2048) (m := 3) (x := y) (l := t.drop (3 - 1))
      rw [← hrr] at hoff hon
      have HOFF := Lib.hid hoff
      have HON := Lib.hid hon
      clear hoff hon hrr
      cases hof : offB 2048 y y with
      | true =>
        have hres := Lib.hid (HOFF.out hof)
        have hc := off_cases hof
        clear hof
        by_cases q1 : y < 2048
        · go_wp2
          go_ret2
          exact ⟨by rw [hres.out]; rfl, rfl⟩
        · by_cases q2 : 1114111 < y
          · go_wp2
            go_ret2
            exact ⟨by rw [hres.out]; rfl, rfl⟩
          · have q3 : 55296 ≤ y := by omega
            have q4 : y ≤ 57343 := by omega
            first
              | (exfalso; omega)
              | (go_wp2
                 go_ret2
                 exact ⟨by rw [hres.out]; rfl, rfl⟩)
      | false =>
        have hres := Lib.hid (HON.out hof)
        obtain ⟨q1, q2, q34⟩ := on_cases hof
        clear hof
        rcases q34 with q3 | q4
        · go_wp2
          go_ret2
          exact ⟨by rw [hres.out]; rfl, rfl⟩
        · by_cases q3 : 55296 ≤ y
          all_goals
            go_wp2
            go_ret2
            exact ⟨by rw [hres.out]; rfl, rfl⟩
end Go.Proofs.YtoimjnmhinfbkaaGreatDoor

namespace Go.Proofs.YtoimjnmhinfbkaaGreatDoor
open Go.RowKit
set_option maxRecDepth 100000
set_option maxHeartbeats 4000000 in
theorem sign_4 (c : UInt8) (t : List UInt8) (w : World) (hl : t.length ≤ 1073741824) (h1 : 240 ≤ c.toNat) (h2 : c.toNat < 248) : Calls Tryz.prog 173 #[.string ⟨(c :: t).toArray⟩] w fun e w' => e = .returned (signV (signGo 65536 4 3 (c.toNat - 240) t)) ∧ w' = w := by
  generalize hr : signGo 65536 4 3 (c.toNat - 240) t = r
  have HR := Lib.hid hr
  clear hr
  generalize hgs : (⟨(c :: t).toArray⟩ : ByteArray) = s
  have hsz : s.size = t.length + 1 := by rw [← hgs]; show (c :: t).length = _; simp
  have hz : 0 < s.size := by omega
  have g0 : s[0]'hz = c := by subst hgs; rfl
  have gx : ∀ i, ∀ h : i < t.length, ∀ h' : i + 1 < s.size, s[i + 1]'h' = t[i] := fun i h h' => by subst hgs; rw [ba_get _ _ (by simp; omega)]; simp
  clear hgs
  have hs1 : s.size ≤ 1073741825 := by omega
  have c1 : (240 : Int) ≤ ((s[0]'hz).toNat : Int) := by rw [g0]; omega
  have c2 : ((s[0]'hz).toNat : Int) < 248 := by rw [g0]; omega
  have hnz : ((s.size : Int) == 0) = false := by rw [beq_eq_false_iff_ne]; omega
  have hzi : (0 : Int) < (s.size : Int) := by omega
  have HG0 := Lib.hid g0
  have HGX := Lib.hid gx
  have HSZ := Lib.hid hsz
  clear g0 gx hsz h1 h2
  go_enter Tryz.func173, Tryz.ntmps173
  go_wp2_with fail
  go_loop [6, 8] (fun x i => ∃ (n : Nat) (y : Int), 1 ≤ n ∧ n ≤ 4 ∧ i = .int .i64 n ∧ x = .int .i64 y ∧ 0 ≤ y ∧ y * 64 ^ (4 - n) + 64 ^ (4 - n) ≤ 2097152 ∧ n ≤ t.length + 1 ∧ r = signGo 65536 4 (4 - n) y (t.drop (n - 1))) (fun _ i => 4 - (intOf i).toNat)
  case atStart => exact ⟨1, _, by omega, by omega, rfl, rfl, by omega, by simp only [Nat.reduceSub, Int.reducePow]; omega, by omega, by rw [← HR.out, HG0.out]; rfl⟩
  case round =>
    obtain ⟨n, y, hn1, hn2, rfl, rfl, hy0, hy1, hnl, hrr⟩ := hrel
    have HRR := Lib.hid hrr
    have HY := Lib.hid hy1
    have hy2 : y ≤ 2097152 := by have := (pow_le (d := 0) hy0 (by omega) hy1).1; simp at this; omega
    clear hrr hy1
    by_cases hlt : n < 4
    · go_wp2_with fail
      go_loop [9, 10, 11] (fun a b k => ∃ d : Nat, n + d ≤ 4 ∧ k = .int .i64 (n + d : Nat) ∧ a = .int .i64 (y * 64 ^ d) ∧ b = .int .i64 (y * 64 ^ d + 64 ^ d - 1)) (fun _ _ k => 4 - (intOf k).toNat)
      case atStart => exact ⟨0, by omega, by simp, by simp, by simp⟩
      case round =>
        obtain ⟨d, hd, rfl, rfl, rfl⟩ := hrel
        have hp := pow_le (d := d) hy0 (show d ≤ 4 - n by omega) HY.out
        have hu1 := Lib.hid (pow_up y d)
        have hu2 := Lib.hid (pow_hi y d)
        by_cases hd2 : n + d < 4
        · have hd3 : ((n + d : Nat) : Int) < 4 := by omega
          generalize hA : y * 64 ^ d = A at *
          generalize hB : (64 : Int) ^ d = B at *
          have HA := Lib.hid hA
          have HB := Lib.hid hB
          clear hA hB
          obtain ⟨hp1, hp2, hp3⟩ := hp
          go_wp2
          go_round
          case rel => exact ⟨d + 1, by omega, by go_num, by rw [hu1.out], by rw [← hu2.out]⟩
          case measure => simp [intOf]; omega
        · obtain rfl : d = 4 - n := by omega
          have hd3 : ¬ ((n + (4 - n) : Nat) : Int) < 4 := by omega
          obtain ⟨k, hk⟩ : ∃ k, 4 - n = k + 1 := ⟨4 - n - 1, by omega⟩
          have hoff := signGo_off (least := 65536) (m := 4) (k := k) (x := y) (l := t.drop (n - 1))
          have hon := signGo_on (least := 65536) (m := 4) (k := k) (x := y) (l := t.drop (n - 1))
          have hrr := HRR.out
          rw [hk] at hp hrr ⊢
          rw [← hrr] at hoff hon
          have HOFF := Lib.hid hoff
          have HON := Lib.hid hon
          obtain ⟨hp1, hp2, hp3⟩ := hp
          have hyk := HY.out
          rw [hk, pow_up, Int.pow_succ] at hyk
          have hnext : ∀ b : Int, 128 ≤ b → b < 192 → 0 ≤ y * 64 + b - 128 ∧ (y * 64 + b - 128) * 64 ^ k + 64 ^ k ≤ 2097152 := fun b hb1 hb2 => by
            have h0 : (0 : Int) < 64 ^ k := Int.pow_pos (by omega)
            refine ⟨by omega, ?_⟩
            have : (y * 64 + b - 128 + 1) * 64 ^ k ≤ (y * 64 + 64) * 64 ^ k := Int.mul_le_mul_of_nonneg_right (by omega) (by omega)
            rw [Int.add_mul, Int.one_mul] at this
            have e : (y * 64 + 64) * 64 ^ k = y * 64 ^ k * 64 + 64 ^ k * 64 := by rw [Int.add_mul, Int.mul_assoc, Int.mul_comm 64 (64 ^ k), ← Int.mul_assoc]
            omega
          have HNEXT := Lib.hid hnext
          clear hoff hon hrr hu1 hu2 hyk hnext
          generalize hA : y * 64 ^ (k + 1) = A at *
          generalize hB : (64 : Int) ^ (k + 1) = B at *
          cases hof : offB 65536 A (A + B - 1) with
          | true =>
            have hres := Lib.hid (HOFF.out hof)
            have hc := off_cases hof
            clear hof hA hB
            by_cases q1 : A + B - 1 < 65536
            · go_wp2
              go_ret2
              exact ⟨by rw [hres.out]; rfl, rfl⟩
            · by_cases q2 : 1114111 < A
              · go_wp2
                go_ret2
                exact ⟨by rw [hres.out]; rfl, rfl⟩
              · have q3 : 55296 ≤ A := by omega
                have q4 : A + B - 1 ≤ 57343 := by omega
                first
                  | (exfalso; omega)
                  | (go_wp2
                     go_ret2
                     exact ⟨by rw [hres.out]; rfl, rfl⟩)
          | false =>
            have hres := HON.out hof
            have hc := on_cases hof
            obtain ⟨q1, q2, q34⟩ := hc
            have hn0 : (0 : Int) ≤ (n : Int) := by omega
            clear hof hA hB
            by_cases hlen : n < t.length + 1
            · have hns : n < s.size := by rw [HSZ.out]; exact hlen
              have hnI : (n : Int) < (s.size : Int) := by omega
              have hb : s[n]'hns = t[n - 1] := by
                have := HGX.out (n - 1) (by omega) (by rw [HSZ.out]; omega)
                simpa [show n - 1 + 1 = n by omega] using this
              have hdr : t.drop (n - 1) = t[n - 1] :: t.drop n := by
                rw [List.drop_eq_getElem_cons (by omega)]
                congr 2
                omega
              rw [hdr] at hres
              simp only [] at hres
              rw [← hb] at hres
              have HRES := Lib.hid hres
              clear hres hb hdr
              have hu := (s[n]'hns).toNat_lt
              by_cases b1 : (s[n]'hns).toNat < 128
              · have hr0 := Lib.hid (show r = (0, 0) by rw [HRES.out, if_pos (.inl b1)])
                have b1' : ((s[n]'hns).toNat : Int) < 128 := by omega
                rcases q34 with q3 | q4
                · go_wp2
                  go_ret2
                  exact ⟨by rw [hr0.out]; rfl, rfl⟩
                · by_cases q3 : 55296 ≤ A
                  all_goals
                    go_wp2
                    go_ret2
                    exact ⟨by rw [hr0.out]; rfl, rfl⟩
              · by_cases b2 : 192 ≤ (s[n]'hns).toNat
                · have hr0 := Lib.hid (show r = (0, 0) by rw [HRES.out, if_pos (.inr b2)])
                  have b1' : ¬ ((s[n]'hns).toNat : Int) < 128 := by omega
                  have b2' : 192 ≤ ((s[n]'hns).toNat : Int) := by omega
                  rcases q34 with q3 | q4
                  · go_wp2
                    go_ret2
                    exact ⟨by rw [hr0.out]; rfl, rfl⟩
                  · by_cases q3 : 55296 ≤ A
                    all_goals
                      go_wp2
                      go_ret2
                      exact ⟨by rw [hr0.out]; rfl, rfl⟩
                · have hr0 := Lib.hid (show r = signGo 65536 4 k (y * 64 + (s[n]'hns).toNat - 128) (t.drop n) by rw [HRES.out, if_neg (by omega)])
                  have b1' : 128 ≤ ((s[n]'hns).toNat : Int) := by omega
                  have b2' : ((s[n]'hns).toNat : Int) < 192 := by omega
                  have hnx := HNEXT.out _ b1' b2'
                  have HNX := Lib.hid hnx
                  have hnx1 := hnx.1
                  clear hnx
                  rcases q34 with q3 | q4
                  · go_wp2
                    go_round
                    case rel => exact ⟨n + 1, _, by omega, by omega, by go_num, rfl, hnx1, by rw [show 4 - (n + 1) = k by omega]; exact HNX.out.2, by omega, by rw [show 4 - (n + 1) = k by omega]; exact hr0.out⟩
                    case measure => simp [intOf]; omega
                  · by_cases q3 : 55296 ≤ A
                    all_goals
                      go_wp2
                      go_round
                      case rel => exact ⟨n + 1, _, by omega, by omega, by go_num, rfl, hnx1, by rw [show 4 - (n + 1) = k by omega]; exact HNX.out.2, by omega, by rw [show 4 - (n + 1) = k by omega]; exact hr0.out⟩
                      case measure => simp [intOf]; omega
            · have hdr : t.drop (n - 1) = [] := List.drop_eq_nil_of_le (by omega)
              rw [hdr] at hres
              have hr0 := Lib.hid (show r = (0, -1) from hres)
              have hnI : ¬ (n : Int) < (s.size : Int) := by have := HSZ.out; omega
              have hnI2 : (s.size : Int) ≤ (n : Int) := by omega
              clear hres hdr
              rcases q34 with q3 | q4
              · go_wp2
                go_ret2
                exact ⟨by rw [hr0.out]; rfl, rfl⟩
              · by_cases q3 : 55296 ≤ A
                all_goals
                  go_wp2
                  go_ret2
                  exact ⟨by rw [hr0.out]; rfl, rfl⟩
    · obtain rfl : n = 4 := by omega
      have hrr := HRR.out
      rw [Nat.sub_self] at hrr
      have hoff := signGo_end_off (least := 65536) (m := 4) (x := y) (l := t.drop (4 - 1))
      have hon := signGo_end_on (least := 65536) (m := 4) (x := y) (l := t.drop (4 - 1))
      rw [← hrr] at hoff hon
      have HOFF := Lib.hid hoff
      have HON := Lib.hid hon
      clear hoff hon hrr
      cases hof : offB 65536 y y with
      | true =>
        have hres := Lib.hid (HOFF.out hof)
        have hc := off_cases hof
        clear hof
        by_cases q1 : y < 65536
        · go_wp2
          go_ret2
          exact ⟨by rw [hres.out]; rfl, rfl⟩
        · by_cases q2 : 1114111 < y
          · go_wp2
            go_ret2
            exact ⟨by rw [hres.out]; rfl, rfl⟩
          · have q3 : 55296 ≤ y := by omega
            have q4 : y ≤ 57343 := by omega
            first
              | (exfalso; omega)
              | (go_wp2
                 go_ret2
                 exact ⟨by rw [hres.out]; rfl, rfl⟩)
      | false =>
        have hres := Lib.hid (HON.out hof)
        obtain ⟨q1, q2, q34⟩ := on_cases hof
        clear hof
        rcases q34 with q3 | q4
        · go_wp2
          go_ret2
          exact ⟨by rw [hres.out]; rfl, rfl⟩
        · by_cases q3 : 55296 ≤ y
          all_goals
            go_wp2
            go_ret2
            exact ⟨by rw [hres.out]; rfl, rfl⟩
end Go.Proofs.YtoimjnmhinfbkaaGreatDoor
