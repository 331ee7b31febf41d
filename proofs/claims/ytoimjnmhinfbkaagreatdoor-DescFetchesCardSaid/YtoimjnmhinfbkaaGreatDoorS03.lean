import Derived.Deep.RegionLaw
import Derived.Maps.AppendAt
import Derived.OwnWalk
import Derived.StillTailTactics
import Derived.Test.YtoimjnmhinfbkaaGreatDoorS02
namespace Go.Proofs.YtoimjnmhinfbkaaGreatDoor
open Go.RowKit
set_option maxRecDepth 100000
theorem ba_eta (s : ByteArray) : (⟨s.data.toList.toArray⟩ : ByteArray) = s := by simp
theorem numWhole_str (s : ByteArray) (w : World) (hg : Glob w) (hl : s.size ≤ 1073741824) : Calls Tryz.prog 52 #[.string s] w (NRes w (wholeN s.data.toList)) := by
 have := numWhole_any s.data.toList w hg (by rw [Array.length_toList]; exact hl)
 rwa [ba_eta] at this
theorem numWhole_ok (s : ByteArray) (n : Int) (w : World) (hg : Glob w) (hl : s.size ≤ 1073741824) (h : wholeN s.data.toList = .ok n) : Calls Tryz.prog 52 #[.string s] w fun e w' => e = .returned (.tuple #[.int .i64 n, .nilIface]) ∧ Below w.heap.size w w' :=
 (numWhole_str s w hg hl).mono fun e w' ⟨h1, h2⟩ => by rw [h] at h2; exact ⟨h2, h1⟩
theorem numWhole_bad (s : ByteArray) (c : Int) (w : World) (hg : Glob w) (hl : s.size ≤ 1073741824) (h : wholeN s.data.toList = .error c) : Calls Tryz.prog 52 #[.string s] w fun e w' => e = .returned (.tuple #[.int .i64 0, .iface 35 (.int .i64 c)]) ∧ Below w.heap.size w w' :=
 (numWhole_str s w hg hl).mono fun e w' ⟨h1, h2⟩ => by rw [h] at h2; exact ⟨h2, h1⟩
theorem lwhole_kind (k : Int) (t : Bool) (x : ByteArray) (A : Option Addr) (n ca : Nat) (B : Option Addr) (m cb : Nat) (p : ByteArray) (least most : Int) (w : World) (h : (k == 2) = false) :
  Calls Tryz.prog 13 #[.agg #[.int .i64 k, .bool t, .string x, .slice A n ca, .slice B m cb, .string p], .int .i64 least, .int .i64 most] w (Threw w 11 p) := by
 go_enter Tryz.func13, Tryz.ntmps13
 go_wp2_with (go_at_call 51; refine (kind_no _ _ _ _ _ _ _ _ _ _ _ _ h).mono ?_; rintro e w' ⟨g, rfl, h⟩)
 exact ⟨rfl, Threw.of ⟨g, rfl, h⟩ ((Below.refl _ _).alloc (Nat.le_refl _) _)⟩
/-- what is no whole number. -/
theorem lwhole_form (t : Bool) (x : ByteArray) (A : Option Addr) (n ca : Nat) (B : Option Addr) (m cb : Nat) (p : ByteArray) (least most : Int) (w : World) (hg : Glob w) (hl : x.size ≤ 1073741824)
  (c : Int) (hc : c = 2 ∨ c = 3 ∨ c = 11) (h : wholeN x.data.toList = .error c) :
  Calls Tryz.prog 13 #[.agg #[.int .i64 2, .bool t, .string x, .slice A n ca, .slice B m cb, .string p], .int .i64 least, .int .i64 most] w (Threw w 11 p) := by
 have HG := Lib.hid hg
 have H := Lib.hid h
 clear hg h
 have hne : ∀ w, (binOp .neq 29 (.iface 35 (.int .i64 c)) (.iface 35 (.int .i64 1))).run Tryz.prog w = .ok (.bool true) w := by
  rcases hc with rfl | rfl | rfl
  all_goals exact fun _ => by kernel_rfl
 clear hc
 go_enter Tryz.func13, Tryz.ntmps13
 go_wp2_with (first | (go_at_call 51; refine (kind_yes _ _ _ _ _ _ _ _ _ _ _ _ (by rfl)).mono ?_; rintro e w1 ⟨rfl, hb1⟩; obtain ⟨hc1, hf1⟩ := bcell hb1; have hz1 : w.heap.size < w1.heap.size := (by have := hb1.size; simp at this; omega)) | (go_at_call 52; refine (numWhole_bad x c _ (by exact HG.out.below (((Below.refl _ _).alloc (Nat.le_refl _) _).trans (hb1.mono (by simp)))) hl H.out).mono ?_; rintro e w2 ⟨rfl, hb2⟩; obtain ⟨hc2, hf2⟩ := bcell hb2) | (go_at_call 53; refine (wrong_any _ _ _ _ _ _ _ _ _ _ _ _).mono ?_; rintro e w' ⟨g, rfl, h⟩))
 have b1 : Below w.heap.size w w1 := ((Below.refl _ _).alloc (Nat.le_refl _) _).trans (hb1.mono (by simp))
 exact ⟨rfl, Threw.of ⟨g, rfl, h⟩ (b1.trans (hb2.mono (by omega)))⟩
/-- what is one, but too great. -/
theorem lwhole_range (t : Bool) (x : ByteArray) (A : Option Addr) (n ca : Nat) (B : Option Addr) (m cb : Nat) (p : ByteArray) (least most : Int) (w : World) (hg : Glob w) (hl : x.size ≤ 1073741824)
  (h : wholeN x.data.toList = .error 1) :
  Calls Tryz.prog 13 #[.agg #[.int .i64 2, .bool t, .string x, .slice A n ca, .slice B m cb, .string p], .int .i64 least, .int .i64 most] w (Threw w 1 p) := by
 have HG := Lib.hid hg
 have H := Lib.hid h
 clear hg h
 have hne : ∀ w, (binOp .neq 29 (.iface 35 (.int .i64 1)) (.iface 35 (.int .i64 1))).run Tryz.prog w = .ok (.bool false) w := fun _ => by kernel_rfl
 go_enter Tryz.func13, Tryz.ntmps13
 go_wp2_with (first | (go_at_call 51; refine (kind_yes _ _ _ _ _ _ _ _ _ _ _ _ (by rfl)).mono ?_; rintro e w1 ⟨rfl, hb1⟩; obtain ⟨hc1, hf1⟩ := bcell hb1; have hz1 : w.heap.size < w1.heap.size := (by have := hb1.size; simp at this; omega)) | (go_at_call 52; refine (numWhole_bad x 1 _ (by exact HG.out.below (((Below.refl _ _).alloc (Nat.le_refl _) _).trans (hb1.mono (by simp)))) hl H.out).mono ?_; rintro e w2 ⟨rfl, hb2⟩; obtain ⟨hc2, hf2⟩ := bcell hb2))
 have b1 : Below w.heap.size w w1 := ((Below.refl _ _).alloc (Nat.le_refl _) _).trans (hb1.mono (by simp))
 have HB := Lib.hid (b1.trans (hb2.mono (by omega)))
 clear b1
 go_still_tail 13, (by kernel_rfl)
 change wpList _ _ _ _ _ w2.drew
 go_wp2_with (go_at_call 54; refine (lmust_no _ _ _ _ _ _ _ _ _ _ _ _).mono ?_; rintro e w' ⟨g, rfl, h⟩)
 exact ⟨rfl, Threw.of ⟨g, rfl, h⟩ HB.out.drew⟩
/-- a whole number out of its bounds. -/
theorem lwhole_out (t : Bool) (x : ByteArray) (A : Option Addr) (n ca : Nat) (B : Option Addr) (m cb : Nat) (p : ByteArray) (least most q : Int) (w : World) (hg : Glob w) (hl : x.size ≤ 1073741824)
  (h : wholeN x.data.toList = .ok q) (ho : q < least ∨ most < q) :
  Calls Tryz.prog 13 #[.agg #[.int .i64 2, .bool t, .string x, .slice A n ca, .slice B m cb, .string p], .int .i64 least, .int .i64 most] w (Threw w 1 p) := by
 have HG := Lib.hid hg
 have H := Lib.hid h
 clear hg h
 by_cases h1 : q < least
 ·have hd1 : decide (least ≤ q) = false := by simpa using h1
  clear ho
  go_enter Tryz.func13, Tryz.ntmps13
  go_wp2_with (first | (go_at_call 51; refine (kind_yes _ _ _ _ _ _ _ _ _ _ _ _ (by rfl)).mono ?_; rintro e w1 ⟨rfl, hb1⟩; obtain ⟨hc1, hf1⟩ := bcell hb1; have hz1 : w.heap.size < w1.heap.size := (by have := hb1.size; simp at this; omega)) | (go_at_call 52; refine (numWhole_ok x q _ (by exact HG.out.below (((Below.refl _ _).alloc (Nat.le_refl _) _).trans (hb1.mono (by simp)))) hl H.out).mono ?_; rintro e w2 ⟨rfl, hb2⟩; obtain ⟨hc2, hf2⟩ := bcell hb2))
  have b1 : Below w.heap.size w w1 := ((Below.refl _ _).alloc (Nat.le_refl _) _).trans (hb1.mono (by simp))
  have HB := Lib.hid (b1.trans (hb2.mono (by omega)))
  clear b1
  go_still_tail 13, (by kernel_rfl)
  change wpList _ _ _ _ _ w2.drew
  go_wp2_with (go_at_call 54; refine (lmust_no _ _ _ _ _ _ _ _ _ _ _ _).mono ?_; rintro e w' ⟨g, rfl, h⟩)
  exact ⟨rfl, Threw.of ⟨g, rfl, h⟩ HB.out.drew⟩
 ·have hd1 : decide (least ≤ q) = true := by simp; omega
  have hd2 : decide (q ≤ most) = false := by simp; omega
  clear ho h1
  go_enter Tryz.func13, Tryz.ntmps13
  go_wp2_with (first | (go_at_call 51; refine (kind_yes _ _ _ _ _ _ _ _ _ _ _ _ (by rfl)).mono ?_; rintro e w1 ⟨rfl, hb1⟩; obtain ⟨hc1, hf1⟩ := bcell hb1; have hz1 : w.heap.size < w1.heap.size := (by have := hb1.size; simp at this; omega)) | (go_at_call 52; refine (numWhole_ok x q _ (by exact HG.out.below (((Below.refl _ _).alloc (Nat.le_refl _) _).trans (hb1.mono (by simp)))) hl H.out).mono ?_; rintro e w2 ⟨rfl, hb2⟩; obtain ⟨hc2, hf2⟩ := bcell hb2))
  have b1 : Below w.heap.size w w1 := ((Below.refl _ _).alloc (Nat.le_refl _) _).trans (hb1.mono (by simp))
  have HB := Lib.hid (b1.trans (hb2.mono (by omega)))
  clear b1
  go_still_tail 13, (by kernel_rfl)
  change wpList _ _ _ _ _ w2.drew
  go_wp2_with (go_at_call 54; refine (lmust_no _ _ _ _ _ _ _ _ _ _ _ _).mono ?_; rintro e w' ⟨g, rfl, h⟩)
  exact ⟨rfl, Threw.of ⟨g, rfl, h⟩ HB.out.drew⟩
theorem lwhole_in (t : Bool) (x : ByteArray) (A : Option Addr) (n ca : Nat) (B : Option Addr) (m cb : Nat) (p : ByteArray) (least most q : Int) (w : World) (hg : Glob w) (hl : x.size ≤ 1073741824)
  (h : wholeN x.data.toList = .ok q) (h1 : least ≤ q) (h2 : q ≤ most) :
  Calls Tryz.prog 13 #[.agg #[.int .i64 2, .bool t, .string x, .slice A n ca, .slice B m cb, .string p], .int .i64 least, .int .i64 most] w fun e w' => e = .returned (.int .i64 q) ∧ Below w.heap.size w w' := by
 have HG := Lib.hid hg
 have H := Lib.hid h
 clear hg h
 have hd1 : decide (least ≤ q) = true := by simpa using h1
 have hd2 : decide (q ≤ most) = true := by simpa using h2
 clear h1 h2
 go_enter Tryz.func13, Tryz.ntmps13
 go_wp2_with (first | (go_at_call 51; refine (kind_yes _ _ _ _ _ _ _ _ _ _ _ _ (by rfl)).mono ?_; rintro e w1 ⟨rfl, hb1⟩; obtain ⟨hc1, hf1⟩ := bcell hb1; have hz1 : w.heap.size < w1.heap.size := (by have := hb1.size; simp at this; omega)) | (go_at_call 52; refine (numWhole_ok x q _ (by exact HG.out.below (((Below.refl _ _).alloc (Nat.le_refl _) _).trans (hb1.mono (by simp)))) hl H.out).mono ?_; rintro e w2 ⟨rfl, hb2⟩; obtain ⟨hc2, hf2⟩ := bcell hb2))
 have b1 : Below w.heap.size w w1 := ((Below.refl _ _).alloc (Nat.le_refl _) _).trans (hb1.mono (by simp))
 have HB := Lib.hid (b1.trans (hb2.mono (by omega)))
 clear b1
 go_still_tail 13, (by kernel_rfl)
 change wpList _ _ _ _ _ w2.drew
 go_wp2_with (go_at_call 54; refine (lmust_yes _ _ _ _ _ _ _ _ _ _ _ _).mono ?_; rintro e w' ⟨rfl, hb3⟩)
 go_ret
 exact ⟨rfl, HB.out.drew.trans (hb3.mono HB.out.drew.size)⟩
end Go.Proofs.YtoimjnmhinfbkaaGreatDoor

namespace Go.Proofs.YtoimjnmhinfbkaaGreatDoor
open Go.RowKit
set_option maxRecDepth 100000
theorem code_fault (g : Nat) (c : Int) (w : World) (h : w.cell? ⟨g, 0, none⟩ = some (.int .i64 c)) : Calls Tryz.prog 14 #[.iface 106 (.pointer (some ⟨g, 0, none⟩))] w fun e w' => e = .returned (.int .i64 c) ∧ w' = w := by
 have hta : ∀ w, (Instr.typeAssert (.iface 106 (.pointer (some ⟨g, 0, none⟩))) 29 106 true).run Tryz.prog w = .ok (.tuple #[.pointer (some ⟨g, 0, none⟩), .bool true]) w := fun _ => by kernel_rfl
 go_enter Tryz.func14, Tryz.ntmps14
 go_wp2
 go_ret
 exact ⟨rfl, rfl⟩
theorem where_fault (g : Nat) (s : ByteArray) (w : World) (h : w.cell? ⟨g, 1, none⟩ = some (.string s)) : Calls Tryz.prog 15 #[.iface 106 (.pointer (some ⟨g, 0, none⟩))] w fun e w' => e = .returned (.string s) ∧ w' = w := by
 have hta : ∀ w, (Instr.typeAssert (.iface 106 (.pointer (some ⟨g, 0, none⟩))) 29 106 true).run Tryz.prog w = .ok (.tuple #[.pointer (some ⟨g, 0, none⟩), .bool true]) w := fun _ => by kernel_rfl
 go_enter Tryz.func15, Tryz.ntmps15
 go_wp2
 go_ret
 exact ⟨rfl, rfl⟩
theorem row_of_heap {w : World} {b : Nat} {cs : List Value} {t : TypeId} (h : w.heap[b]? = some (.cells cs.toArray t (0, 0))) : Row w b 0 cs := fun i hi => by
 rw [cell_of_row w b _ _ t (0, 0) h]; simp [hi]
end Go.Proofs.YtoimjnmhinfbkaaGreatDoor

namespace Go.Proofs.YtoimjnmhinfbkaaGreatDoor
open Go.RowKit
set_option maxRecDepth 100000
/-! ### a text, a bool -/
theorem text_kind (k : Int) (t : Bool) (x : ByteArray) (A : Option Addr) (n ca : Nat) (B : Option Addr) (m cb : Nat) (p : ByteArray) (most : Int) (w : World) (h : (k == 3) = false) :
  Calls Tryz.prog 59 #[.agg #[.int .i64 k, .bool t, .string x, .slice A n ca, .slice B m cb, .string p], .int .i64 most] w (Threw w 11 p) := by
 go_enter Tryz.func59, Tryz.ntmps59
 go_wp2_with (go_at_call 51; refine (kind_no _ _ _ _ _ _ _ _ _ _ _ _ h).mono ?_; rintro e w' ⟨g, rfl, h⟩)
 exact ⟨rfl, Threw.of ⟨g, rfl, h⟩ ((Below.refl _ _).alloc (Nat.le_refl _) _)⟩
theorem text_long (t : Bool) (x : ByteArray) (A : Option Addr) (n ca : Nat) (B : Option Addr) (m cb : Nat) (p : ByteArray) (most : Int) (w : World) (hl : x.size ≤ 1073741824) (h : most < x.size) :
  Calls Tryz.prog 59 #[.agg #[.int .i64 3, .bool t, .string x, .slice A n ca, .slice B m cb, .string p], .int .i64 most] w (Threw w 3 p) := by
 have hd : decide ((x.size : Int) ≤ most) = false := by simpa using h
 clear h
 go_enter Tryz.func59, Tryz.ntmps59
 go_wp2_with (first | (go_at_call 51; refine (kind_yes _ _ _ _ _ _ _ _ _ _ _ _ (by rfl)).mono ?_; rintro e w1 ⟨rfl, hb1⟩; obtain ⟨hc1, hf1⟩ := bcell hb1; have hz1 : w.heap.size < w1.heap.size := (by have := hb1.size; simp at this; omega)) | (go_at_call 54; refine (lmust_no _ _ _ _ _ _ _ _ _ _ _ _).mono ?_; rintro e w' ⟨g, rfl, h⟩))
 exact ⟨rfl, Threw.of ⟨g, rfl, h⟩ (((Below.refl _ _).alloc (Nat.le_refl _) _).trans (hb1.mono (by simp)))⟩
theorem text_some (t : Bool) (x : ByteArray) (A : Option Addr) (n ca : Nat) (B : Option Addr) (m cb : Nat) (p : ByteArray) (most : Int) (w : World) (hl : x.size ≤ 1073741824) (h : (x.size : Int) ≤ most) :
  Calls Tryz.prog 59 #[.agg #[.int .i64 3, .bool t, .string x, .slice A n ca, .slice B m cb, .string p], .int .i64 most] w fun e w' => e = .returned (.string x) ∧ Below w.heap.size w w' := by
 have hd : decide ((x.size : Int) ≤ most) = true := by simpa using h
 clear h
 go_enter Tryz.func59, Tryz.ntmps59
 go_wp2_with (first | (go_at_call 51; refine (kind_yes _ _ _ _ _ _ _ _ _ _ _ _ (by rfl)).mono ?_; rintro e w1 ⟨rfl, hb1⟩; obtain ⟨hc1, hf1⟩ := bcell hb1; have hz1 : w.heap.size < w1.heap.size := (by have := hb1.size; simp at this; omega)) | (go_at_call 54; refine (lmust_yes _ _ _ _ _ _ _ _ _ _ _ _).mono ?_; rintro e w2 ⟨rfl, hb2⟩; obtain ⟨hc2, hf2⟩ := bcell hb2))
 go_ret
 exact ⟨rfl, (((Below.refl _ _).alloc (Nat.le_refl _) _).trans (hb1.mono (by simp))).trans (hb2.mono (by omega))⟩
/-! ### a field that may be -/
def V.maybe (v : V) (name : ByteArray) : Option V := match v.get name with
 | some u => if (u.kind == 0) = true then none else some u
 | none => none
set_option maxHeartbeats 800000 in
theorem maybe_none (v : V) (cs : List Value) (p name : ByteArray) (w : World) (S : Nat → Prop) (hv : v.Rep w S cs) (hb : v.bulk ≤ 4194304) (hk : v.kind = 5) (hp : p.size ≤ 1073741824) (hn : name.size ≤ 1073741824)
  (hg : v.maybe name = none) :
  Calls Tryz.prog 57 #[.agg (cs ++ [Value.string p]).toArray, .string name] w fun e w' =>
   e = .returned (.tuple #[.agg #[.int .i64 0, .bool false, .string ⟨#[]⟩, .slice none 0 0, .slice none 0 0, .string ⟨#[]⟩], .bool false]) ∧ Below w.heap.size w w' := by
 have hv2 := hv
 obtain ⟨A, ca, B, cb, rfl, -⟩ := hv.open
 have hnm := named_yes v [.int .i64 v.kind, .bool v.tr, .string v.text, .slice A v.list.length ca, .slice B v.names.length cb] p name
 have hq : (v.get name).isSome = false ∨ ((v.get name).isSome = true ∧ (((v.get name).getD V.zero).kind == 0) = true) := by
  unfold V.maybe at hg
  cases hh : v.get name with
  | none => exact .inl rfl
  | some u =>
   rw [hh] at hg
   refine .inr ⟨rfl, ?_⟩
   simp only at hg
   split at hg
   ·assumption
   ·cases hg
 generalize hu : (v.get name).getD V.zero = u at hnm hq
 generalize hqq : (v.get name).isSome = q at hnm hq
 have HN := Lib.hid hnm
 have HV := Lib.hid hv2
 have HK := Lib.hid hk
 clear hnm hv hv2 hk hg hu hqq
 simp only [List.cons_append, List.nil_append] at HN ⊢
 rcases hq with rfl | ⟨rfl, hk0⟩
 all_goals
  go_enter Tryz.func57, Tryz.ntmps57
  go_wp2_with (go_at_call 92; refine (HN.out _ S (by exact HV.out.agree fun b hb hlt => ⟨below_agree (((Below.refl w.heap.size w).alloc (Nat.le_refl _) _).alloc (by simp) _) b hlt, hb⟩) hb HK.out hp hn).mono ?_; rintro e w1 ⟨cs1, rfl, hrep1, hb1⟩; obtain ⟨A1, ca1, B1, cb1, rfl, -⟩ := hrep1.open; clear hrep1; have hz1 : w.heap.size + 1 < w1.heap.size := (by have := hb1.size; simp at this; omega); have hz2 : w.heap.size < w1.heap.size := (by omega); obtain ⟨hc1, hf1⟩ := bcell hb1)
  refine bodyPost_ret (v := .tuple #[.agg #[.int .i64 0, .bool false, .string ⟨#[]⟩, .slice none 0 0, .slice none 0 0, .string ⟨#[]⟩], .bool false]) (by simp [results, Tryz.results57, go_sem, hc1, hz1, hz2, Nat.lt_succ_of_lt hz1]) rfl ?_
  refine ⟨rfl, ?_⟩
  (repeat (first | with_reducible refine Below.alloc ?_ (by simp; omega) _ | with_reducible refine Below.setCell ?_ (by simp) _))
  exact (((Below.refl _ _).alloc (Nat.le_refl _) _).alloc (by simp) _).trans (hb1.mono (by simp; omega))
set_option maxHeartbeats 800000 in
theorem maybe_some (v u : V) (cs : List Value) (p name : ByteArray) (w : World) (S : Nat → Prop) (hv : v.Rep w S cs) (hb : v.bulk ≤ 4194304) (hk : v.kind = 5) (hp : p.size ≤ 1073741824) (hn : name.size ≤ 1073741824)
  (hg : v.maybe name = some u) :
  Calls Tryz.prog 57 #[.agg (cs ++ [Value.string p]).toArray, .string name] w fun e w' => ∃ cs',
   e = .returned (.tuple #[.agg (cs' ++ [Value.string (fieldPlace p name)]).toArray, .bool true]) ∧ u.Rep w' (fun b => w.heap.size ≤ b ∧ b < w'.heap.size) cs' ∧ Below w.heap.size w w' := by
 have hv2 := hv
 obtain ⟨A, ca, B, cb, rfl, -⟩ := hv.open
 have hnm := named_yes v [.int .i64 v.kind, .bool v.tr, .string v.text, .slice A v.list.length ca, .slice B v.names.length cb] p name
 have hgu : v.get name = some u ∧ (u.kind == 0) = false := by
  unfold V.maybe at hg
  cases hh : v.get name with
  | none => rw [hh] at hg; cases hg
  | some u' =>
   rw [hh] at hg
   simp only at hg
   split at hg
   ·cases hg
   ·cases hg
    rename_i hne; exact ⟨rfl, by simpa using hne⟩
 obtain ⟨hgu, hk0⟩ := hgu
 rw [hgu] at hnm
 simp only [Option.getD_some, Option.isSome_some, List.cons_append, List.nil_append] at hnm ⊢
 have HN := Lib.hid hnm
 have HV := Lib.hid hv2
 have HK := Lib.hid hk
 clear hnm hv hv2 hk hg hgu
 go_enter Tryz.func57, Tryz.ntmps57
 go_wp2_with (go_at_call 92; refine (HN.out _ S (by exact HV.out.agree fun b hb hlt => ⟨below_agree (((Below.refl w.heap.size w).alloc (Nat.le_refl _) _).alloc (by simp) _) b hlt, hb⟩) hb HK.out hp hn).mono ?_; rintro e w1 ⟨cs1, rfl, hrep1, hb1⟩; obtain ⟨A1, ca1, B1, cb1, rfl, -⟩ := hrep1.open; have HR1 := Lib.hid hrep1; clear hrep1; have hz1 : w.heap.size + 1 < w1.heap.size := (by have := hb1.size; simp at this; omega); have hz2 : w.heap.size < w1.heap.size := (by omega); obtain ⟨hc1, hf1⟩ := bcell hb1)
 refine bodyPost_ret (v := .tuple #[.agg #[.int .i64 u.kind, .bool u.tr, .string u.text, .slice A1 u.list.length ca1, .slice B1 u.names.length cb1, .string (fieldPlace p name)], .bool true]) (by simp [results, Tryz.results57, go_sem, hc1, hz1, hz2, Nat.lt_succ_of_lt hz1]) rfl ?_
 refine ⟨[.int .i64 u.kind, .bool u.tr, .string u.text, .slice A1 u.list.length ca1, .slice B1 u.names.length cb1], rfl, ?_, ?_⟩
 ·refine HR1.out.fresh (lo := w.heap.size) (g := w.heap.size + 1) ?_ (by simp; omega) (by simp)
  (repeat (first | with_reducible refine Also.drew ?_ | with_reducible refine Also.alloc ?_ _ | with_reducible refine Also.setCell ?_ (by simp) _))
  exact Also.refl _ _
 ·(repeat (first | with_reducible refine Below.alloc ?_ (by simp; omega) _ | with_reducible refine Below.setCell ?_ (by simp) _))
  exact (((Below.refl _ _).alloc (Nat.le_refl _) _).alloc (by simp) _).trans (hb1.mono (by simp; omega))
end Go.Proofs.YtoimjnmhinfbkaaGreatDoor
namespace Go.Proofs.YtoimjnmhinfbkaaGreatDoor
open Go.RowKit
set_option maxRecDepth 100000
end Go.Proofs.YtoimjnmhinfbkaaGreatDoor
namespace Go.Proofs.YtoimjnmhinfbkaaGreatDoor
open Go.RowKit
set_option maxRecDepth 100000
end Go.Proofs.YtoimjnmhinfbkaaGreatDoor
namespace Go.Proofs.YtoimjnmhinfbkaaGreatDoor
open Go.RowKit
set_option maxRecDepth 100000
end Go.Proofs.YtoimjnmhinfbkaaGreatDoor

namespace Go.Proofs.YtoimjnmhinfbkaaGreatDoor
open Go.RowKit
set_option maxRecDepth 100000
/-- what digits spell, behind what was spelt before. -/
def dvalFrom (acc : Nat) (l : List UInt8) : Nat := l.foldl (fun a c => a * 10 + (c.toNat - 48)) acc
def dval (l : List UInt8) : Nat := dvalFrom 0 l
theorem dvalFrom_cons (acc : Nat) (c : UInt8) (l : List UInt8) : dvalFrom acc (c :: l) = dvalFrom (acc * 10 + (c.toNat - 48)) l := by
 unfold dvalFrom
 rw [List.foldl_cons]
theorem dvalFrom_append (acc : Nat) (l r : List UInt8) : dvalFrom acc (l ++ r) = dvalFrom (dvalFrom acc l) r := by
 unfold dvalFrom
 rw [List.foldl_append]
theorem dvalFrom_eq (l : List UInt8) : ∀ acc, dvalFrom acc l = acc * 10 ^ l.length + dval l := by
 induction l with
 | nil => intro acc; simp [dvalFrom, dval]
 | cons c l ih =>
  intro acc
  have h2 : dval (c :: l) = (c.toNat - 48) * 10 ^ l.length + dval l := by
   rw [dval, dvalFrom_cons, ih, Nat.zero_mul, Nat.zero_add]
  rw [dvalFrom_cons, ih, h2, List.length_cons, Nat.pow_succ, Nat.add_mul, Nat.mul_assoc, Nat.mul_comm 10, Nat.add_assoc]
theorem dvalFrom_ge (l : List UInt8) (acc : Nat) : acc ≤ dvalFrom acc l := by
 rw [dvalFrom_eq]
 have : 1 ≤ 10 ^ l.length := Nat.pos_of_ne_zero (by simp)
 calc acc = acc * 1 := (Nat.mul_one _).symm
  _ ≤ acc * 10 ^ l.length := Nat.mul_le_mul_left _ this
  _ ≤ _ := Nat.le_add_right _ _
theorem puM_val (M : Nat) (hM : M ≤ 18446744073709551615) : ∀ (l : List UInt8) (acc : Nat), (∀ c ∈ l, dig c = true) → acc ≤ M →
  Lib.parseUintM M acc l = if dvalFrom acc l ≤ M then .ok (dvalFrom acc l) else .range := by
 intro l
 induction l with
 | nil => intro acc _ h; rw [show dvalFrom acc [] = acc from rfl, if_pos h]; rfl
 | cons c l ih =>
  intro acc hd h
  have hc := (dig_iff c).1 (hd c (by simp))
  simp only [Lib.parseUintM]
  rw [if_pos (by omega)]
  have hge := dvalFrom_ge l (acc * 10 + (c.toNat - 48))
  rw [dvalFrom_cons]
  by_cases h1 : 1844674407370955162 ≤ acc
  ·rw [if_pos h1, if_neg (by omega)]
  ·rw [if_neg h1]
   by_cases h2 : M < acc * 10 + (c.toNat - 48)
   ·rw [if_pos h2, if_neg (by omega)]
   ·rw [if_neg h2]
    exact ih _ (fun x hx => hd x (by simp [hx])) (by omega)
/-- digits with a sign ahead or none: the number, or out of range. -/
theorem parseInt_val (b : Bool) (f : List UInt8) (hf : f ≠ []) (hd : ∀ c ∈ f, dig c = true) :
  Lib.parseIntB 64 (if b = true then 45 :: f else f) =
   if b = true then (if dval f ≤ 9223372036854775808 then .ok (-(dval f : Int)) else .range) else (if dval f ≤ 9223372036854775807 then .ok (dval f : Int) else .range) := by
 have hu : Lib.parseUintB 64 f = if dval f ≤ 18446744073709551615 then .ok (dval f) else .range := by
  rw [Lib.parseUintB, if_neg hf]
  exact puM_val (2 ^ 64 - 1) (by omega) f 0 hd (by omega)
 cases b with
 | true =>
  simp only [if_true]
  simp only [Lib.parseIntB]
  rw [if_pos (.inr rfl), hu]
  by_cases h1 : dval f ≤ 18446744073709551615
  ·rw [if_pos h1]
   simp only
   by_cases h2 : dval f ≤ 9223372036854775808
   ·rw [if_neg (by simp), if_neg (by simp; omega), if_pos h2]
    simp
   ·rw [if_neg (by simp), if_pos (by simp; omega), if_neg h2]
  ·rw [if_neg h1, if_neg (by omega)]
 | false =>
  simp only [Bool.false_eq_true, if_false]
  cases f with
  | nil => exact absurd rfl hf
  | cons c r =>
   have hc := (dig_iff c).1 (hd c (by simp))
   simp only [Lib.parseIntB]
   rw [if_neg (by omega), hu]
   by_cases h1 : dval (c :: r) ≤ 18446744073709551615
   ·rw [if_pos h1]
    simp only
    by_cases h2 : dval (c :: r) ≤ 9223372036854775807
    ·rw [if_neg (by omega), if_neg (by omega), if_neg (by omega), if_pos h2]
    ·rw [if_pos (by omega), if_neg h2]
   ·rw [if_neg h1, if_neg (by omega)]
end Go.Proofs.YtoimjnmhinfbkaaGreatDoor
namespace Go.Proofs.YtoimjnmhinfbkaaGreatDoor
open Go.RowKit
set_option maxRecDepth 100000
end Go.Proofs.YtoimjnmhinfbkaaGreatDoor
namespace Go.Proofs.YtoimjnmhinfbkaaGreatDoor
open Go.RowKit
set_option maxRecDepth 100000
/-- digits, each step capped at 1000. -/
def capFrom (acc : Nat) (l : List UInt8) : Nat := l.foldl (fun a c => min (a * 10 + (c.toNat - 48)) 1000) acc
theorem capFrom_cons (acc : Nat) (c : UInt8) (l : List UInt8) : capFrom acc (c :: l) = capFrom (min (acc * 10 + (c.toNat - 48)) 1000) l := by
 unfold capFrom
 rw [List.foldl_cons]
theorem capFrom_eq : ∀ (l : List UInt8) (acc : Nat), capFrom (min acc 1000) l = min (dvalFrom acc l) 1000 := by
 intro l
 induction l with
 | nil => intro acc; rfl
 | cons c l ih =>
  intro acc
  rw [capFrom_cons, dvalFrom_cons, ← ih (acc * 10 + (c.toNat - 48))]
  congr 1
  omega
theorem cap_eq (l : List UInt8) : capFrom 0 l = min (dval l) 1000 := by
 have := capFrom_eq l 0
 rwa [show min 0 1000 = 0 from rfl] at this
/-- all figures are zeros: what they spell is 0. -/
theorem dval_zeros (l : List UInt8) (h : ∀ c ∈ l, c = 48) : dval l = 0 := by
 induction l with
 | nil => rfl
 | cons c l ih =>
  have h0 : c = 48 := h c (by simp)
  subst h0
  rw [dval, dvalFrom_cons, dvalFrom_eq, ih fun x hx => h x (by simp [hx])]
  simp
end Go.Proofs.YtoimjnmhinfbkaaGreatDoor
namespace Go.Proofs.YtoimjnmhinfbkaaGreatDoor
open Go.RowKit
set_option maxRecDepth 100000
theorem dval_cons (c : UInt8) (l : List UInt8) : dval (c :: l) = (c.toNat - 48) * 10 ^ l.length + dval l := by
 rw [dval, dvalFrom_cons, dvalFrom_eq, Nat.zero_mul, Nat.zero_add]
theorem dval_append (l r : List UInt8) : dval (l ++ r) = dval l * 10 ^ r.length + dval r := by
 rw [dval, dvalFrom_append, dvalFrom_eq]; rfl
/-- zeros ahead say nothing. -/
theorem dval_trim (l : List UInt8) : dval (Lib.trimLeftB l 48) = dval l := by
 induction l with
 | nil => rfl
 | cons c l ih =>
  by_cases hc : c = 48
  ·subst hc
   have h1 : Lib.trimLeftB (48 :: l) 48 = Lib.trimLeftB l 48 := by simp [Lib.trimLeftB]
   rw [h1, ih, dval_cons]
   simp
  ·have h1 : Lib.trimLeftB (c :: l) 48 = c :: l := by simp [Lib.trimLeftB, List.dropWhile_cons, hc]
   rw [h1]
theorem repeat_zeros (k : Nat) : (∀ c ∈ Lib.repeatL [48] k, c = 48) ∧ (Lib.repeatL [48] k).length = k := by
 refine ⟨?_, by rw [Lib.repeatL_length]; simp⟩
 induction k with
 | zero => intro c hc; cases hc
 | succ k ih =>
  intro c hc
  rcases List.mem_append.1 (show c ∈ [48] ++ Lib.repeatL [48] k from hc) with h | h
  ·exact List.mem_singleton.1 h
  ·exact ih c h
/-- zeros behind: a power of ten. -/
theorem dval_repeat (l : List UInt8) (k : Nat) : dval (l ++ Lib.repeatL [48] k) = dval l * 10 ^ k := by
 obtain ⟨h1, h2⟩ := repeat_zeros k
 rw [dval_append, h2, dval_zeros _ h1, Nat.add_zero]
/-- a first figure that is no zero: as many figures, so great. -/
theorem dval_first (c : UInt8) (l : List UInt8) (hd : dig c = true) (hc : c ≠ 48) : 10 ^ l.length ≤ dval (c :: l) := by
 have h1 := (dig_iff c).1 hd
 have h2 : c.toNat ≠ 48 := fun e => hc (UInt8.toNat_inj.1 (by rw [e]; rfl))
 rw [dval_cons]
 have h4 : 1 ≤ c.toNat - 48 := by omega
 calc 10 ^ l.length = 1 * 10 ^ l.length := (Nat.one_mul _).symm
  _ ≤ (c.toNat - 48) * 10 ^ l.length := Nat.mul_le_mul_right _ h4
  _ ≤ _ := Nat.le_add_right _ _
/-- what is left of figures when the zeros ahead are cut: nothing, or no zero ahead. -/
theorem trim_head (l : List UInt8) : Lib.trimLeftB l 48 = [] ∨ ∃ c r, Lib.trimLeftB l 48 = c :: r ∧ c ≠ 48 := by
 induction l with
 | nil => exact .inl rfl
 | cons c l ih =>
  by_cases hc : c = 48
  ·subst hc
   have h1 : Lib.trimLeftB (48 :: l) 48 = Lib.trimLeftB l 48 := by simp [Lib.trimLeftB]
   rw [h1]; exact ih
  ·exact .inr ⟨c, l, by simp [Lib.trimLeftB, List.dropWhile_cons, hc], hc⟩
/-- how the figures' length bounds the number from below. -/
theorem dval_long (l : List UInt8) (k n : Nat) (hd : ∀ c ∈ l, dig c = true) (h0 : Lib.trimLeftB l 48 ≠ []) (h : n < (Lib.trimLeftB l 48 ++ Lib.repeatL [48] k).length) :
  10 ^ n ≤ dval l * 10 ^ k := by
 rw [← dval_trim l, ← dval_repeat]
 rcases trim_head l with h1 | ⟨c, r, h1, hc⟩
 ·exact absurd h1 h0
 ·have hdc : dig c = true := hd c (by
   have : c ∈ Lib.trimLeftB l 48 := by rw [h1]; simp
   exact (List.dropWhile_sublist _).subset this)
  rw [h1] at h ⊢
  rw [List.cons_append] at h ⊢
  refine Nat.le_trans (Nat.pow_le_pow_right (by omega) ?_) (dval_first c _ hdc hc)
  simp only [List.length_cons] at h
  omega
end Go.Proofs.YtoimjnmhinfbkaaGreatDoor
namespace Go.Proofs.YtoimjnmhinfbkaaGreatDoor
open Go.RowKit
set_option maxRecDepth 100000
theorem trimLeft_nil (l : List UInt8) : Lib.trimLeftB l 48 = [] ↔ ∀ c ∈ l, c = 48 := by
 induction l with
 | nil => simp [Lib.trimLeftB]
 | cons c l ih =>
  by_cases hc : c = 48
  ·subst hc
   have h1 : Lib.trimLeftB (48 :: l) 48 = Lib.trimLeftB l 48 := by simp [Lib.trimLeftB]
   rw [h1, ih]; simp
  ·have h1 : Lib.trimLeftB (c :: l) 48 = c :: l := by simp [Lib.trimLeftB, List.dropWhile_cons, hc]
   rw [h1]
   constructor
   ·intro h; cases h
   ·intro h; exact absurd (h c (by simp)) hc
theorem trim_nil (l : List UInt8) : Lib.trimB l 48 = [] ↔ ∀ c ∈ l, c = 48 := by
 have hr : Lib.trimRightB l 48 = (Lib.trimLeftB l.reverse 48).reverse := rfl
 rw [Lib.trimB, trimLeft_nil, hr]
 rcases trim_head l.reverse with h | ⟨c, r, h, hc⟩
 ·have h2 := (trimLeft_nil l.reverse).1 h
  rw [h]
  constructor
  ·intro _ c hc; exact h2 c (by simpa using hc)
  ·intro _ c hc; cases hc
 ·rw [h]
  constructor
  ·intro h2; exact absurd (h2 c (by simp)) hc
  ·intro h2
   have h3 := (trimLeft_nil l.reverse).2 (fun x hx => h2 x (by simpa using hx))
   rw [h] at h3; cases h3
/-- a number within an int's bounds, or out of range. -/
def signed (b : Bool) (N : Nat) : Except Int Int :=
 if b = true then (if N ≤ 9223372036854775808 then .ok (-(N : Int)) else .error 1) else (if N ≤ 9223372036854775807 then .ok (N : Int) else .error 1)
/-- num.Whole by what the figures spell. -/
theorem wholeN_val (l : List UInt8) (p : Parts) (h64 : ¬ 64 < l.length) (hp : parseL l = some p) (hd : ∀ c ∈ p.all, dig c = true) :
  wholeN l = if (∀ c ∈ p.all.drop p.cut, c = 48) then signed p.below (dval (p.all.take p.cut) * 10 ^ (p.point - p.cut).toNat) else .error 11 := by
 rw [wholeN, if_neg h64, hp]
 simp only
 by_cases hz : ∀ c ∈ p.all.drop p.cut, c = 48
 ·rw [if_pos hz, wholeL, if_pos ((trim_nil _).2 hz)]
  have hdt : ∀ c ∈ p.all.take p.cut, dig c = true := fun c hc => hd c (List.mem_of_mem_take hc)
  by_cases hk : Lib.trimLeftB (p.all.take p.cut) 48 = []
  ·rw [if_pos hk]
   have h0 : dval (p.all.take p.cut) = 0 := by rw [← dval_trim, hk]; rfl
   rw [h0, Nat.zero_mul]
   simp only
   rw [if_neg (by simp), parseInt_val p.below [48] (by simp) (by intro c hc; rw [List.mem_singleton.1 hc]; rfl)]
   have h1 : dval [48] = 0 := rfl
   rw [h1]
   cases p.below <;> rfl
  ·rw [if_neg hk]
   simp only
   generalize hf : Lib.trimLeftB (p.all.take p.cut) 48 ++ Lib.repeatL [48] (p.point - p.cut).toNat = f
   have hv : dval f = dval (p.all.take p.cut) * 10 ^ (p.point - p.cut).toNat := by rw [← hf, dval_repeat, dval_trim]
   have hfd : ∀ c ∈ f, dig c = true := by
    intro c hc
    rw [← hf] at hc
    rcases List.mem_append.1 hc with h | h
    ·exact hdt c ((List.dropWhile_sublist _).subset h)
    ·rw [(repeat_zeros _).1 c h]; rfl
   have hfn : f ≠ [] := by
    intro h; rw [h] at hf
    exact hk (List.append_eq_nil_iff.1 hf).1
   by_cases h20 : 20 < f.length
   ·have hlong := dval_long (p.all.take p.cut) (p.point - p.cut).toNat 20 hdt hk (by rw [hf]; exact h20)
    rw [if_pos h20, signed]
    cases p.below
    ·rw [if_neg (by decide), if_neg (by omega)]
    ·rw [if_pos rfl, if_neg (by omega)]
   ·rw [if_neg h20, parseInt_val p.below f hfn hfd, signed, hv]
    generalize dval (p.all.take p.cut) * 10 ^ (p.point - p.cut).toNat = N
    cases p.below
    ·simp only [Bool.false_eq_true, if_false]
     by_cases hN : N ≤ 9223372036854775807
     ·rw [if_pos hN, if_pos hN]
     ·rw [if_neg hN, if_neg hN]
    ·simp only [if_true]
     by_cases hN : N ≤ 9223372036854775808
     ·rw [if_pos hN, if_pos hN]
     ·rw [if_neg hN, if_neg hN]
 ·rw [if_neg hz, wholeL, if_neg (fun h => hz ((trim_nil _).1 h))]
end Go.Proofs.YtoimjnmhinfbkaaGreatDoor
namespace Go.Proofs.YtoimjnmhinfbkaaGreatDoor
open Go.RowKit
set_option maxRecDepth 100000
theorem mag_val (f : List UInt8) (hf : f ≠ []) (hd : ∀ c ∈ f, dig c = true) : Lib.parseMag f = if dval f ≤ 18446744073709551615 then .ok (dval f) else .range := by
 have hM : ∀ (l : List UInt8) (acc : Nat), Lib.parseUint10 acc l = Lib.parseUintM 18446744073709551615 acc l := by
  intro l
  induction l with
  | nil => intro acc; rfl
  | cons c l ih => intro acc; simp only [Lib.parseUint10, Lib.parseUintM, ih]; (repeat split) <;> first | rfl | omega
 rw [Lib.parseMag, if_neg hf, hM]
 exact puM_val _ (by omega) f 0 hd (by omega)
theorem expo_plain (ds : List UInt8) (hne : ds ≠ []) (hd : ∀ c ∈ ds, dig c = true) : expo ds = (min (dval ds) 128 : Nat) := by
 cases hds : ds with
 | nil => exact absurd hds hne
 | cons c r =>
  have hc := (dig_iff c).1 (hd c (by rw [hds]; simp))
  rw [← hds]
  have hmag := mag_val ds hne hd
  have hh : (ds.head? == some 45) = false := by
   rw [hds]; simp; intro h; rw [h] at hc; exact absurd hc.1 (by decide)
  rw [expo, if_neg hne, hds, Lib.atoiAll_plain c r (by omega) (by omega), ← hds, hmag, hh]
  by_cases h1 : dval ds ≤ 18446744073709551615
  ·rw [if_pos h1]
   by_cases h2 : 9223372036854775808 ≤ dval ds
   ·simp only [Lib.signless, h2]; simp; omega
   ·simp only [Lib.signless, h2]; simp; split <;> omega
  ·rw [if_neg h1]; simp [Lib.signless]; omega
theorem expo_plus (ds : List UInt8) (hne : ds ≠ []) (hd : ∀ c ∈ ds, dig c = true) : expo (43 :: ds) = (min (dval ds) 128 : Nat) := by
 have hmag := mag_val ds hne hd
 have hh : ((43 :: ds : List UInt8).head? == some 45) = false := rfl
 rw [expo, if_neg (by simp), Lib.atoiAll_plus, hmag, hh]
 by_cases h1 : dval ds ≤ 18446744073709551615
 ·rw [if_pos h1]
  by_cases h2 : 9223372036854775808 ≤ dval ds
  ·simp only [Lib.signless, h2]; simp; omega
  ·simp only [Lib.signless, h2]; simp; split <;> omega
 ·rw [if_neg h1]; simp [Lib.signless]; omega
theorem expo_minus (ds : List UInt8) (hne : ds ≠ []) (hd : ∀ c ∈ ds, dig c = true) : expo (45 :: ds) = -((min (dval ds) 128 : Nat) : Int) := by
 have hmag := mag_val ds hne hd
 have hh : ((45 :: ds : List UInt8).head? == some 45) = true := rfl
 rw [expo, if_neg (by simp), Lib.atoiAll_minus, hmag, hh]
 by_cases h1 : dval ds ≤ 18446744073709551615
 ·rw [if_pos h1]
  by_cases h2 : 9223372036854775808 < dval ds
  ·simp only [Lib.signed, h2]; simp; omega
  ·simp only [Lib.signed, h2]; simp; split <;> omega
 ·rw [if_neg h1]; simp [Lib.signed]; omega
end Go.Proofs.YtoimjnmhinfbkaaGreatDoor
namespace Go.Proofs.YtoimjnmhinfbkaaGreatDoor
open Go.RowKit
set_option maxRecDepth 100000
/-- a whole number's answer with an exponent E ahead of which the point stands. -/
def wholeAt (b : Bool) (all : List UInt8) (E : Int) : Except Int Int :=
 if (∀ c ∈ all.drop (min (max E 0) all.length).toNat, c = 48) then signed b (dval (all.take (min (max E 0) all.length).toNat) * 10 ^ (E - (min (max E 0) all.length).toNat).toNat) else .error 11
theorem signed_big (b : Bool) (N : Nat) (h : 9223372036854775808 < N) : signed b N = .error 1 := by
 unfold signed
 cases b
 ·rw [if_neg (by decide), if_neg (by omega)]
 ·rw [if_pos rfl, if_neg (by omega)]
/-- beyond 128 places the exponent's size does not matter: there are at most 64 figures. -/
theorem wholeAt_clamp (b : Bool) (all : List UInt8) (n : Nat) (e1 e2 : Int) (hl : all.length ≤ 64) (hn : n ≤ all.length) (h : e1 = e2 ∨ (e1 = 128 ∧ 128 ≤ e2) ∨ (e1 = -128 ∧ e2 ≤ -128)) :
  wholeAt b all (n + e1) = wholeAt b all (n + e2) := by
 rcases h with rfl | ⟨rfl, h⟩ | ⟨rfl, h⟩
 ·rfl
 ·have c1 : (min (max ((n : Int) + 128) 0) all.length).toNat = all.length := by omega
  have c2 : (min (max ((n : Int) + e2) 0) all.length).toNat = all.length := by omega
  unfold wholeAt
  rw [c1, c2, List.drop_length, List.take_length, if_pos (by intro c hc; cases hc), if_pos (by intro c hc; cases hc)]
  by_cases h0 : dval all = 0
  ·rw [h0, Nat.zero_mul, Nat.zero_mul]
  ·have big : ∀ k : Nat, 64 ≤ k → 9223372036854775808 < dval all * 10 ^ k := fun k hk => by
    have h1 : 10 ^ 64 ≤ 10 ^ k := Nat.pow_le_pow_right (by omega) hk
    have h2 : 1 * 10 ^ 64 ≤ dval all * 10 ^ k := Nat.mul_le_mul (by omega) h1
    omega
   rw [signed_big b _ (big _ (by omega)), signed_big b _ (big _ (by omega))]
 ·have c1 : (min (max ((n : Int) + -128) 0) all.length).toNat = 0 := by omega
  have c2 : (min (max ((n : Int) + e2) 0) all.length).toNat = 0 := by omega
  unfold wholeAt
  rw [c1, c2, List.take_zero, show dval [] = 0 from rfl, Nat.zero_mul, Nat.zero_mul]
theorem wholeN_at (l : List UInt8) (p : Parts) (h64 : ¬ 64 < l.length) (hp : parseL l = some p) (hd : ∀ c ∈ p.all, dig c = true) :
  wholeN l = wholeAt p.below p.all ((p.ahead.length : Nat) + expo p.power) := by
 rw [wholeN_val l p h64 hp hd]; rfl
/-- the exponent as the reference reads it. -/
def powR (sg ds : List UInt8) : Int := if sg = [45] then -(capFrom 0 ds : Int) else (capFrom 0 ds : Int)
theorem expo_cap (sg ds : List UInt8) (hs : sg = [] ∨ sg = [43] ∨ sg = [45]) (hne : ds ≠ []) (hd : ∀ c ∈ ds, dig c = true) :
  expo (sg ++ ds) = powR sg ds ∨ (expo (sg ++ ds) = 128 ∧ 128 ≤ powR sg ds) ∨ (expo (sg ++ ds) = -128 ∧ powR sg ds ≤ -128) := by
 have hc := cap_eq ds
 rcases hs with rfl | rfl | rfl
 ·have h := expo_plain ds hne hd
  rw [List.nil_append, h, powR, if_neg (by decide), hc]; omega
 ·have h := expo_plus ds hne hd
  rw [show ([43] ++ ds : List UInt8) = 43 :: ds from rfl, h, powR, if_neg (by decide), hc]; omega
 ·have h := expo_minus ds hne hd
  rw [show ([45] ++ ds : List UInt8) = 45 :: ds from rfl, h, powR, if_pos rfl, hc]; omega
end Go.Proofs.YtoimjnmhinfbkaaGreatDoor
namespace Go.Proofs.YtoimjnmhinfbkaaGreatDoor
open Go.RowKit
set_option maxRecDepth 100000
end Go.Proofs.YtoimjnmhinfbkaaGreatDoor
namespace Go.Proofs.YtoimjnmhinfbkaaGreatDoor
open Go.RowKit
set_option maxRecDepth 100000
theorem digs_app (l : List UInt8) : digs l ++ rest l = l := List.takeWhile_append_dropWhile
theorem digs_le (l : List UInt8) : (digs l).length ≤ l.length := by
 have := congrArg List.length (digs_app l)
 rw [List.length_append] at this; omega
theorem digs_dig (m : List UInt8) : ∀ c ∈ digs m, dig c = true := fun c hc => (List.all_takeWhile (l := m) (p := dig) |> List.all_eq_true.1) c hc
/-- the exponent as the reference reads it off the part of a text behind its e. -/
def refExp (pw : List UInt8) : Int := if pw.head? = some 45 then -(capFrom 0 pw.tail : Int) else if pw.head? = some 43 then (capFrom 0 pw.tail : Int) else (capFrom 0 pw : Int)
theorem refExp_minus (ds : List UInt8) : refExp (45 :: ds) = -(capFrom 0 ds : Int) := by simp [refExp]
theorem refExp_plus (ds : List UInt8) : refExp (43 :: ds) = (capFrom 0 ds : Int) := by simp [refExp]
theorem refExp_plain (ds : List UInt8) (hd : ∀ c ∈ ds, dig c = true) : refExp ds = (capFrom 0 ds : Int) := by
 cases ds with
 | nil => rfl
 | cons c t =>
  have hc := (dig_iff c).1 (hd c (by simp))
  unfold refExp
  rw [if_neg (by simp; intro e; rw [e] at hc; exact absurd hc.1 (by decide)), if_neg (by simp; intro e; rw [e] at hc; exact absurd hc.1 (by decide))]
end Go.Proofs.YtoimjnmhinfbkaaGreatDoor

namespace Go.Proofs.YtoimjnmhinfbkaaGreatDoor
open Go.RowKit
set_option maxRecDepth 100000
/-- an exponent's text. -/
def PowText (pw : List UInt8) : Prop := pw = [] ∨ ∃ sg ds, pw = sg ++ ds ∧ (sg = [] ∨ sg = [43] ∨ sg = [45]) ∧ ds ≠ [] ∧ ∀ c ∈ ds, dig c = true
theorem sign_three' (y : List UInt8) : signOf y = [] ∨ signOf y = [43] ∨ signOf y = [45] := by
 cases y with
 | nil => exact .inl rfl
 | cons c t =>
  cases h : isSign (c :: t) with
  | false => exact .inl (sign_no h).2
  | true =>
   rw [(sign_yes h).2]
   have h2 := sign_val c t
   rw [h] at h2
   have h3 : ((c.toNat : Int) == 43 || (c.toNat : Int) == 45) = true := by simpa using h2
   rw [Bool.or_eq_true] at h3
   rcases h3 with h3 | h3
   ·have : c = 43 := u8_eq (n := 43) (by omega) (by simpa using h3)
    exact .inr (.inl (by rw [this]))
   ·have : c = 45 := u8_eq (n := 45) (by omega) (by simpa using h3)
    exact .inr (.inr (by rw [this]))
theorem parseExp_some {b : Bool} {x y s : List UInt8} {p : Parts} (h : parseExp b x y s = some p) : p.below = b ∧ p.ahead = x ∧ p.behind = y ∧ PowText p.power := by
 cases s with
 | nil =>
  have : some (⟨b, x, y, []⟩ : Parts) = some p := h
  cases this
  exact ⟨rfl, rfl, rfl, .inl rfl⟩
 | cons c s =>
  cases hb : badE c with
  | true => rw [parseExp_bad hb] at h; cases h
  | false =>
   rw [parseExp_ok hb, parsePow] at h
   split at h
   ·cases h
   ·rename_i hn
    cases h
    exact ⟨rfl, rfl, rfl, .inr ⟨_, _, rfl, sign_three' s, fun e => hn (.inl e), digs_dig _⟩⟩
theorem parts_of {l : List UInt8} {p : Parts} (h : parseL l = some p) : (∀ c ∈ p.all, dig c = true) ∧ p.all.length ≤ 64 ∧ PowText p.power ∧ ¬ 64 < l.length := by
 unfold parseL at h
 split at h
 ·cases h
 ·rename_i hl
  unfold parseTail at h
  split at h
  ·cases h
  ·unfold parseDot at h
   have hu := unsign_length l
   have hdr := digs_rest (unsign l)
   split at h
   ·split at h
    ·cases h
    ·obtain ⟨h1, h2, h3, h4⟩ := parseExp_some h
     have hz := undot_length (rest (unsign l))
     have hz2 := digs_le (undot (rest (unsign l)))
     refine ⟨?_, ?_, h4, hl⟩
     ·intro c hc
      unfold Parts.all at hc
      rw [h2, h3] at hc
      rcases List.mem_append.1 hc with h | h
      ·exact digs_dig _ c h
      ·exact digs_dig _ c h
     ·unfold Parts.all
      rw [h2, h3, List.length_append]; omega
   ·obtain ⟨h1, h2, h3, h4⟩ := parseExp_some h
    refine ⟨?_, ?_, h4, hl⟩
    ·intro c hc
     unfold Parts.all at hc
     rw [h2, h3, List.append_nil] at hc
     exact digs_dig _ c hc
    ·unfold Parts.all
     rw [h2, h3, List.append_nil]; omega
theorem refExp_pow (sg ds : List UInt8) (hs : sg = [] ∨ sg = [43] ∨ sg = [45]) (hd : ∀ c ∈ ds, dig c = true) : refExp (sg ++ ds) = powR sg ds := by
 rcases hs with rfl | rfl | rfl
 ·rw [List.nil_append, refExp_plain ds hd, powR, if_neg (by decide)]
 ·rw [show ([43] ++ ds : List UInt8) = 43 :: ds from rfl, refExp_plus, powR, if_neg (by decide)]
 ·rw [show ([45] ++ ds : List UInt8) = 45 :: ds from rfl, refExp_minus, powR, if_pos rfl]
/-- num.Whole's answer by the exponent as the reference reads it. -/
theorem wholeN_ref {l : List UInt8} {p : Parts} (h : parseL l = some p) : wholeN l = wholeAt p.below p.all ((p.ahead.length : Nat) + refExp p.power) := by
 obtain ⟨h1, h2, h3, h4⟩ := parts_of h
 rw [wholeN_at l p h4 h h1]
 have hn : p.ahead.length ≤ p.all.length := by unfold Parts.all; rw [List.length_append]; omega
 rcases h3 with h3 | ⟨sg, ds, h3, h5, h6, h7⟩
 ·rw [h3]; rfl
 ·rw [h3, refExp_pow sg ds h5 h7]
  exact wholeAt_clamp p.below p.all p.ahead.length _ _ h2 hn (expo_cap sg ds h5 h6 h7)
theorem wholeN_none {l : List UInt8} (h : parseL l = none) : wholeN l = .error (if 64 < l.length then 3 else 2) := by
 unfold wholeN
 split
 ·rfl
 ·rw [h]
end Go.Proofs.YtoimjnmhinfbkaaGreatDoor
namespace Go.Proofs.YtoimjnmhinfbkaaGreatDoor
open Go.RowKit
set_option maxRecDepth 100000
end Go.Proofs.YtoimjnmhinfbkaaGreatDoor
namespace Go.Proofs.YtoimjnmhinfbkaaGreatDoor
open Go.RowKit
set_option maxRecDepth 100000
theorem wholeN_codes (l : List UInt8) (c : Int) (h : wholeN l = .error c) : c = 1 ∨ c = 2 ∨ c = 3 ∨ c = 11 := by
 cases hp : parseL l with
 | none =>
  rw [wholeN_none hp] at h
  have := Except.error.inj h
  split at this <;> omega
 | some p =>
  rw [wholeN_ref hp, wholeAt] at h
  split at h
  ·unfold signed at h
   split at h
   ·split at h
    ·cases h
    ·cases h; exact .inl rfl
   ·split at h
    ·cases h
    ·cases h; exact .inl rfl
  ·cases h; exact .inr (.inr (.inr rfl))
section
variable (t : Bool) (x : ByteArray) (A : Option Addr) (n ca : Nat) (B : Option Addr) (m cb : Nat) (p : ByteArray) (bad : Int) (wh : ByteArray) (least most : Int) (w : World)
end
end Go.Proofs.YtoimjnmhinfbkaaGreatDoor

namespace Go.Proofs.YtoimjnmhinfbkaaGreatDoor
open Go.RowKit
set_option maxRecDepth 100000
/-! ### what looks answer, as plain functions: an answer, or a code at a place -/
def fieldA (v : V) (p name : ByteArray) : Except (Int × ByteArray) V :=
 if (v.kind == 5) = true then (match v.get name with | some u => .ok u | none => .error (4, fieldPlace p name)) else .error (11, p)
def textA (u : V) (p : ByteArray) (most : Int) : Except (Int × ByteArray) ByteArray :=
 if (u.kind == 3) = true then (if (u.text.size : Int) ≤ most then .ok u.text else .error (3, p)) else .error (11, p)
def wholeA (u : V) (p : ByteArray) (least most : Int) : Except (Int × ByteArray) Int :=
 if (u.kind == 2) = true then (match wholeN u.text.data.toList with | .ok q => if least ≤ q ∧ q ≤ most then .ok q else .error (1, p) | .error c => if c = 1 then .error (1, p) else .error (11, p)) else .error (11, p)
def filledA (v : V) (p name : ByteArray) (most : Int) : Except (Int × ByteArray) ByteArray :=
 match fieldA v p name with
 | .error b => .error b
 | .ok u => match textA u (fieldPlace p name) most with
  | .error b => .error b
  | .ok s => if s.toList = [] then .error (9, fieldPlace p name) else .ok s
theorem V.get_bulk {v u : V} {name : ByteArray} (h : v.get name = some u) : u.bulk ≤ v.bulk := by
 unfold V.get at h
 split at h
 ·cases h
 ·have := V.bulks_mem (List.mem_of_getElem? h)
  cases v
  simp only [V.bulk, V.list] at this ⊢
  omega
theorem V.maybe_get {v u : V} {name : ByteArray} (h : v.maybe name = some u) : v.get name = some u := by
 unfold V.maybe at h
 split at h
 ·split at h
  ·cases h
  ·rename_i h1 _
   rw [← h]; exact h1
 ·cases h
theorem V.text_bulk (v : V) : v.text.size ≤ v.bulk := by
 cases v; simp only [V.bulk, V.text]; omega
theorem fieldA_ok {v u : V} {p name : ByteArray} (h : fieldA v p name = .ok u) : v.kind = 5 ∧ v.get name = some u := by
 unfold fieldA at h
 split at h
 ·rename_i hk
  refine ⟨by simpa using hk, ?_⟩
  split at h
  ·rename_i u' hu
   injection h with h
   rw [hu, h]
  ·cases h
 ·cases h
theorem fieldPlace_size (p name : ByteArray) : (fieldPlace p name).size ≤ p.size + 1 + name.size := by
 unfold fieldPlace
 split
 ·omega
 ·simp [ByteArray.size_append]; exact Nat.le_refl _
/-- what a look's function does: it returns something of x, or throws. -/
def AnsL {α : Type} (w : World) (f : α → World → Value → Prop) (r : Except (Int × ByteArray) α) (e : Ending) (w' : World) : Prop :=
 match r with
 | .ok x => ∃ val, e = .returned val ∧ f x w' val ∧ Below w.heap.size w w'
 | .error b => Threw w b.1 b.2 e w'
theorem AnsL.ok {α : Type} {w : World} {f : α → World → Value → Prop} {r : Except (Int × ByteArray) α} {w' : World} (x : α) (val : Value) (hr : r = .ok x) (hf : f x w' val) (hb : Below w.heap.size w w') : AnsL w f r (.returned val) w' := by
 subst hr; exact ⟨val, rfl, hf, hb⟩
theorem AnsL.bad {α : Type} {w : World} {f : α → World → Value → Prop} {r : Except (Int × ByteArray) α} {e : Ending} {w' : World} (c : Int) (p : ByteArray) (hr : r = .error (c, p)) (h : Threw w c p e w') : AnsL w f r e w' := by
 subst hr; exact h
def LookV (w : World) (p : ByteArray) (u : V) (w' : World) (val : Value) : Prop := ∃ cs, val = .agg (cs ++ [Value.string p]).toArray ∧ u.Rep w' (fun b => w.heap.size ≤ b ∧ b < w'.heap.size) cs
def IsStr (s : ByteArray) (_ : World) (val : Value) : Prop := val = .string s
def IsInt (q : Int) (_ : World) (val : Value) : Prop := val = .int .i64 q
theorem lfield_any (v : V) (cs : List Value) (p name : ByteArray) (w : World) (S : Nat → Prop) (hv : v.Rep w S cs) (hb : v.bulk ≤ 4194304) (hp : p.size ≤ 1073741824) (hn : name.size ≤ 1073741824) :
  Calls Tryz.prog 47 #[.agg (cs ++ [Value.string p]).toArray, .string name] w (AnsL w (LookV w (fieldPlace p name)) (fieldA v p name)) := by
 by_cases hk : (v.kind == 5) = true
 ·have hk5 : v.kind = 5 := by simpa using hk
  cases hg : v.get name with
  | none =>
   exact (lfield_none v cs p name w S hv hb hk5 hp hn hg).mono fun e w' h => AnsL.bad 4 _ (by simp only [fieldA, hk, hg, if_true]) h
  | some u =>
   exact (lfield_some v u cs p name w S hv hb hk5 hp hn hg).mono fun e w' ⟨cs', he, hr, hbw⟩ => by
    subst he
    exact AnsL.ok u _ (by simp only [fieldA, hk, hg, if_true]) ⟨cs', rfl, hr⟩ hbw
 ·have hk' : (v.kind == 5) = false := by simpa using hk
  obtain ⟨A, ca, B, cb, rfl, -⟩ := hv.open
  exact (lfield_kind _ _ _ _ _ _ _ _ _ p name w hk').mono fun e w' h => AnsL.bad 11 _ (by simp [fieldA, hk']) h
theorem ltext_any (u : V) (A : Option Addr) (n ca : Nat) (B : Option Addr) (m cb : Nat) (p : ByteArray) (most : Int) (w : World) (hb : u.bulk ≤ 4194304) :
  Calls Tryz.prog 59 #[.agg #[.int .i64 u.kind, .bool u.tr, .string u.text, .slice A n ca, .slice B m cb, .string p], .int .i64 most] w (AnsL w IsStr (textA u p most)) := by
 have hl : u.text.size ≤ 1073741824 := by have := u.text_bulk; omega
 by_cases hk : (u.kind == 3) = true
 ·have hk3 : u.kind = 3 := by simpa using hk
  rw [hk3]
  by_cases hm : (u.text.size : Int) ≤ most
  ·exact (text_some _ _ _ _ _ _ _ _ p most w hl hm).mono fun e w' ⟨he, hbw⟩ => by
    subst he
    exact AnsL.ok u.text _ (by simp only [textA, hk, if_true, if_pos hm]) rfl hbw
  ·exact (text_long _ _ _ _ _ _ _ _ p most w hl (by omega)).mono fun e w' h => AnsL.bad 3 _ (by simp only [textA, hk, if_true, if_neg hm]) h
 ·have hk' : (u.kind == 3) = false := by simpa using hk
  exact (text_kind _ _ _ _ _ _ _ _ _ p most w hk').mono fun e w' h => AnsL.bad 11 _ (by simp [textA, hk']) h
theorem lwhole_any (u : V) (A : Option Addr) (n ca : Nat) (B : Option Addr) (m cb : Nat) (p : ByteArray) (least most : Int) (w : World) (hg : Glob w) (hb : u.bulk ≤ 4194304) :
  Calls Tryz.prog 13 #[.agg #[.int .i64 u.kind, .bool u.tr, .string u.text, .slice A n ca, .slice B m cb, .string p], .int .i64 least, .int .i64 most] w (AnsL w IsInt (wholeA u p least most)) := by
 have hl : u.text.size ≤ 1073741824 := by have := u.text_bulk; omega
 by_cases hk : (u.kind == 2) = true
 ·have hk2 : u.kind = 2 := by simpa using hk
  rw [hk2]
  cases hw : wholeN u.text.data.toList with
  | ok q =>
   by_cases hm : least ≤ q ∧ q ≤ most
   ·exact (lwhole_in _ _ _ _ _ _ _ _ p least most q w hg hl hw hm.1 hm.2).mono fun e w' ⟨he, hbw⟩ => by
     subst he
     exact AnsL.ok q _ (by simp only [wholeA, hk, hw, if_true, if_pos hm]) rfl hbw
   ·exact (lwhole_out _ _ _ _ _ _ _ _ p least most q w hg hl hw (by omega)).mono fun e w' h => AnsL.bad 1 _ (by simp only [wholeA, hk, hw, if_true, if_neg hm]) h
  | error c =>
   rcases wholeN_codes _ _ hw with rfl | hc
   ·exact (lwhole_range _ _ _ _ _ _ _ _ p least most w hg hl hw).mono fun e w' h => AnsL.bad 1 _ (by simp [wholeA, hk, hw]) h
   ·exact (lwhole_form _ _ _ _ _ _ _ _ p least most w hg hl c hc hw).mono fun e w' h => AnsL.bad 11 _ (by have : c ≠ 1 := (by omega); simp [wholeA, hk, hw, this]) h
 ·have hk' : (u.kind == 2) = false := by simpa using hk
  exact (lwhole_kind _ _ _ _ _ _ _ _ _ p least most w hk').mono fun e w' h => AnsL.bad 11 _ (by simp [wholeA, hk']) h
set_option maxHeartbeats 800000 in
theorem filled_any (v : V) (cs : List Value) (p name : ByteArray) (most : Int) (w : World) (S : Nat → Prop) (hv : v.Rep w S cs) (hb : v.bulk ≤ 4194304) (hp : p.size ≤ 1000000) (hn : name.size ≤ 1000000) :
  Calls Tryz.prog 73 #[.agg (cs ++ [Value.string p]).toArray, .string name, .int .i64 most] w (AnsL w IsStr (filledA v p name most)) := by
 generalize hr : filledA v p name most = r
 have HR := Lib.hid hr
 have HV := Lib.hid hv
 obtain ⟨A, ca, B, cb, rfl, -⟩ := hv.open
 clear hr hv
 simp only [List.cons_append, List.nil_append]
 go_enter Tryz.func73, Tryz.ntmps73
 go_wp2_with fail
 refine (lfield_any v [.int .i64 v.kind, .bool v.tr, .string v.text, .slice A v.list.length ca, .slice B v.names.length cb] p name _ S (HV.out.agree fun b hb hlt => ⟨below_agree ((Below.refl _ _).alloc (Nat.le_refl _) _) b hlt, hb⟩) hb (by omega) (by omega)).mono ?_
 rintro e w1 h1
 cases hf : fieldA v p name with
 | error b =>
  rw [hf] at h1
  obtain ⟨c, q⟩ := b
  have HR2 := Lib.hid (show r = .error (c, q) by rw [← HR.out]; simp only [filledA, hf])
  obtain ⟨g, rfl, hth⟩ := h1
  clear hf
  go_wp2
  exact ⟨rfl, AnsL.bad c q HR2.out (Threw.of ⟨g, rfl, hth⟩ ((Below.refl _ _).alloc (Nat.le_refl _) _))⟩
 | ok u =>
  rw [hf] at h1
  obtain ⟨val, rfl, ⟨cs1, rfl, hrep1⟩, hb1⟩ := h1
  have hub : u.bulk ≤ 4194304 := by have := V.get_bulk (fieldA_ok hf).2; omega
  obtain ⟨A1, ca1, B1, cb1, rfl, -⟩ := hrep1.open
  have HF := Lib.hid hf
  have hz1 : w.heap.size < w1.heap.size := by have := hb1.size; simp at this; omega
  have HB1 := Lib.hid hb1
  clear hf hrep1 hb1
  go_wp2_with fail
  refine (ltext_any u A1 _ ca1 B1 _ cb1 (fieldPlace p name) most _ hub).mono ?_
  rintro e w2 h2
  cases ht : textA u (fieldPlace p name) most with
  | error b =>
   rw [ht] at h2
   obtain ⟨c, q⟩ := b
   have HR2 := Lib.hid (show r = .error (c, q) by rw [← HR.out]; simp only [filledA, HF.out, ht])
   obtain ⟨g, rfl, hth⟩ := h2
   clear ht
   go_wp2
   exact ⟨rfl, AnsL.bad c q HR2.out (Threw.of ⟨g, rfl, hth⟩ ((((Below.refl _ _).alloc (Nat.le_refl _) _).trans (HB1.out.mono (by simp))).alloc (by omega) _))⟩
  | ok s =>
   rw [ht] at h2
   obtain ⟨val, rfl, rfl, hb2⟩ := h2
   obtain ⟨hc2, hf2⟩ := bcell hb2
   have hz2 : w1.heap.size < w2.heap.size := by have := hb2.size; simp at this; omega
   by_cases hs : s.toList = []
   ·have HR2 := Lib.hid (show r = .error (9, fieldPlace p name) by rw [← HR.out]; simp only [filledA, HF.out, ht, if_pos hs])
    clear ht
    go_wp2_with fail
    refine (wrong_any _ _ _ _ _ _ _ _ _ _ _ _).mono ?_
    rintro e w3 ⟨g, rfl, hth⟩
    go_wp2
    exact ⟨rfl, AnsL.bad _ _ HR2.out (Threw.of ⟨g, rfl, hth⟩ (((((Below.refl _ _).alloc (Nat.le_refl _) _).trans (HB1.out.mono (by simp))).alloc (by omega) _).trans (hb2.mono (by simp; omega))))⟩
   ·have HR2 := Lib.hid (show r = .ok s by rw [← HR.out]; simp only [filledA, HF.out, ht, if_neg hs])
    have hs2 : s.toList.isEmpty = false := by cases h : s.toList <;> simp_all
    clear ht
    go_wp2
    go_ret
    exact AnsL.ok s _ HR2.out rfl (((((Below.refl _ _).alloc (Nat.le_refl _) _).trans (HB1.out.mono (by simp))).alloc (by omega) _).trans (hb2.mono (by simp; omega)))
end Go.Proofs.YtoimjnmhinfbkaaGreatDoor

namespace Go.Proofs.YtoimjnmhinfbkaaGreatDoor
open Go.RowKit
set_option maxRecDepth 100000
def nArch : ByteArray := ⟨#[97, 114, 99, 104, 105, 116, 101, 99, 116, 117, 114, 101]⟩
def nOs : ByteArray := ⟨#[111, 115]⟩
def nVar : ByteArray := ⟨#[118, 97, 114, 105, 97, 110, 116]⟩
def varA (v : V) (p : ByteArray) : Except (Int × ByteArray) ByteArray :=
 match v.maybe nVar with
 | none => .ok ⟨#[]⟩
 | some u => textA u (fieldPlace p nVar) 64
def platA (v : V) (p : ByteArray) : Except (Int × ByteArray) (ByteArray × ByteArray × ByteArray) :=
 match filledA v p nArch 64 with
 | .error b => .error b
 | .ok a => match filledA v p nOs 64 with
  | .error b => .error b
  | .ok o => match varA v p with
   | .error b => .error b
   | .ok x => .ok (a, o, x)
theorem filledA_kind {v : V} {p name : ByteArray} {most : Int} {s : ByteArray} (h : filledA v p name most = .ok s) : v.kind = 5 := by
 unfold filledA at h
 split at h
 ·cases h
 ·rename_i hu
  exact (fieldA_ok hu).1
theorem filled_ok (v : V) (cs : List Value) (p name : ByteArray) (most : Int) (w : World) (S : Nat → Prop) (hv : v.Rep w S cs) (hb : v.bulk ≤ 4194304) (hp : p.size ≤ 1000000) (hn : name.size ≤ 1000000) (s : ByteArray) (h : filledA v p name most = .ok s) :
  Calls Tryz.prog 73 #[.agg (cs ++ [Value.string p]).toArray, .string name, .int .i64 most] w fun e w' => e = .returned (.string s) ∧ Below w.heap.size w w' :=
 (filled_any v cs p name most w S hv hb hp hn).mono fun e w' hh => by
  rw [h] at hh
  obtain ⟨val, h1, h2, h3⟩ := hh
  exact ⟨by rw [h1, h2], h3⟩
theorem filled_bad (v : V) (cs : List Value) (p name : ByteArray) (most : Int) (w : World) (S : Nat → Prop) (hv : v.Rep w S cs) (hb : v.bulk ≤ 4194304) (hp : p.size ≤ 1000000) (hn : name.size ≤ 1000000) (c : Int) (q : ByteArray) (h : filledA v p name most = .error (c, q)) :
  Calls Tryz.prog 73 #[.agg (cs ++ [Value.string p]).toArray, .string name, .int .i64 most] w (Threw w c q) :=
 (filled_any v cs p name most w S hv hb hp hn).mono fun e w' hh => by
  rw [h] at hh
  exact hh
def IsPlat (r : ByteArray × ByteArray × ByteArray) (_ : World) (val : Value) : Prop := val = .agg #[.string r.1, .string r.2.1, .string r.2.2]
set_option maxHeartbeats 1600000 in
theorem plat_bad1 (v : V) (cs : List Value) (p : ByteArray) (w : World) (S : Nat → Prop) (hv : v.Rep w S cs) (hb : v.bulk ≤ 4194304) (hp : p.size ≤ 1000000) (c : Int) (q : ByteArray) (h : filledA v p nArch 64 = .error (c, q)) :
  Calls Tryz.prog 31 #[.agg (cs ++ [Value.string p]).toArray] w (Threw w c q) := by
 have HV := Lib.hid hv
 obtain ⟨A, ca, B, cb, rfl, -⟩ := hv.open
 have HA := Lib.hid (fun W (hW : Below w.heap.size w W) => filled_bad v [.int .i64 v.kind, .bool v.tr, .string v.text, .slice A v.list.length ca, .slice B v.names.length cb] p ⟨#[97, 114, 99, 104, 105, 116, 101, 99, 116, 117, 114, 101]⟩ 64 W S (HV.out.agree fun b hb hlt => ⟨hW.block b hlt, hb⟩) hb (by omega) (by decide) c q h)
 clear hv h
 simp only [List.cons_append, List.nil_append] at HA ⊢
 go_enter Tryz.func31, Tryz.ntmps31
 go_wp2_with fail
 go_region_with (go_at_call 73; (with_reducible refine (HA.out _ ?_).mono ?_); (· ((repeat (first | with_reducible refine Below.drew ?_ | with_reducible refine Below.alloc ?_ (by first | (simp; done) | (simp; omega)) _)); exact Below.refl _ _)); rintro e w1 ⟨g, rfl, hth⟩; refine (fun (_ : wpAny Tryz.prog .any #[] (fun _ _ _ => True) 0 #[] ⟨#[], []⟩ w1) => ⟨rfl, Threw.of ⟨g, rfl, hth⟩ (by ((repeat (first | with_reducible refine Below.drew ?_ | with_reducible refine Below.alloc ?_ (by first | (simp; done) | (simp; omega)) _)); exact Below.refl _ _))⟩) ?_)
 all_goals trivial
set_option maxHeartbeats 1600000 in
theorem plat_bad2 (v : V) (cs : List Value) (p : ByteArray) (w : World) (S : Nat → Prop) (hv : v.Rep w S cs) (hb : v.bulk ≤ 4194304) (hp : p.size ≤ 1000000) (a : ByteArray) (h1 : filledA v p nArch 64 = .ok a) (c : Int) (q : ByteArray) (h : filledA v p nOs 64 = .error (c, q)) :
  Calls Tryz.prog 31 #[.agg (cs ++ [Value.string p]).toArray] w (Threw w c q) := by
 have HV := Lib.hid hv
 obtain ⟨A, ca, B, cb, rfl, -⟩ := hv.open
 have HA := Lib.hid (fun W (hW : Below w.heap.size w W) => filled_ok v [.int .i64 v.kind, .bool v.tr, .string v.text, .slice A v.list.length ca, .slice B v.names.length cb] p ⟨#[97, 114, 99, 104, 105, 116, 101, 99, 116, 117, 114, 101]⟩ 64 W S (HV.out.agree fun b hb hlt => ⟨hW.block b hlt, hb⟩) hb (by omega) (by decide) a h1)
 have HB := Lib.hid (fun W (hW : Below w.heap.size w W) => filled_bad v [.int .i64 v.kind, .bool v.tr, .string v.text, .slice A v.list.length ca, .slice B v.names.length cb] p ⟨#[111, 115]⟩ 64 W S (HV.out.agree fun b hb hlt => ⟨hW.block b hlt, hb⟩) hb (by omega) (by decide) c q h)
 clear hv h h1
 simp only [List.cons_append, List.nil_append] at HA HB ⊢
 go_enter Tryz.func31, Tryz.ntmps31
 go_wp2_with fail
 go_region_with (first | (go_at_call 73; (with_reducible refine (HA.out _ ?_).mono ?_); (· ((repeat (first | with_reducible refine Below.drew ?_ | with_reducible refine Below.alloc ?_ (by first | (simp; done) | (simp; omega)) _)); exact Below.refl _ _)); rintro e w1 ⟨rfl, hb1⟩; obtain ⟨hc1, hf1⟩ := bcell hb1; have z1 : w.heap.size + 1 < w1.heap.size := (by have := hb1.size; simp at this; omega); have z2 : w.heap.size < w1.heap.size := (by omega)) | (go_at_call 73; (with_reducible refine (HB.out _ ?_).mono ?_); (· ((repeat (first | with_reducible refine Below.drew ?_ | with_reducible refine Below.alloc ?_ (by first | omega | (simp; done) | (simp; omega)) _)); refine Below.trans ?_ (hb1.mono (by simp; omega)); (repeat (first | with_reducible refine Below.drew ?_ | with_reducible refine Below.alloc ?_ (by first | (simp; done) | (simp; omega)) _)); exact Below.refl _ _)); rintro e w2 ⟨g, rfl, hth⟩; refine (fun (_ : wpAny Tryz.prog .any #[] (fun _ _ _ => True) 0 #[] ⟨#[], []⟩ w2) => ⟨rfl, Threw.of ⟨g, rfl, hth⟩ (by ((repeat (first | with_reducible refine Below.drew ?_ | with_reducible refine Below.alloc ?_ (by first | omega | (simp; done) | (simp; omega)) _)); refine Below.trans ?_ (hb1.mono (by simp; omega)); (repeat (first | with_reducible refine Below.drew ?_ | with_reducible refine Below.alloc ?_ (by first | (simp; done) | (simp; omega)) _)); exact Below.refl _ _))⟩) ?_))
 all_goals trivial
end Go.Proofs.YtoimjnmhinfbkaaGreatDoor

namespace Go.Proofs.YtoimjnmhinfbkaaGreatDoor
open Go.RowKit
set_option maxRecDepth 100000
/-! ### the document's side -/
def codeE {α : Type} : Except (Int × ByteArray) α → Int
 | .ok _ => 0
 | .error b => b.1
def whereE {α : Type} : Except (Int × ByteArray) α → ByteArray
 | .ok _ => ⟨#[]⟩
 | .error b => b.2
theorem fieldA_codes {v : V} {p name : ByteArray} {b : Int × ByteArray} (h : fieldA v p name = .error b) : b.1 = 4 ∨ b.1 = 11 := by
 unfold fieldA at h
 split at h
 ·split at h
  ·cases h
  ·injection h with h; subst h; exact .inl rfl
 ·injection h with h; subst h; exact .inr rfl
theorem textA_codes {v : V} {p : ByteArray} {most : Int} {b : Int × ByteArray} (h : textA v p most = .error b) : b.1 = 3 ∨ b.1 = 11 := by
 unfold textA at h
 split at h
 ·split at h
  ·cases h
  ·injection h with h; subst h; exact .inl rfl
 ·injection h with h; subst h; exact .inr rfl
end Go.Proofs.YtoimjnmhinfbkaaGreatDoor

namespace Go.Proofs.YtoimjnmhinfbkaaGreatDoor
open Go.RowKit
set_option maxRecDepth 100000
def perhapsA (v : V) (p name : ByteArray) (most : Int) : Except (Int × ByteArray) ByteArray :=
 match v.maybe name with
 | none => .ok ⟨#[]⟩
 | some u => textA u (fieldPlace p name) most
theorem perhapsA_codes {v : V} {p name : ByteArray} {most : Int} {b : Int × ByteArray} (h : perhapsA v p name most = .error b) : b.1 ≠ 0 := by
 unfold perhapsA at h
 split at h
 ·cases h
 ·have := textA_codes h; omega
theorem filledA_codes {v : V} {p name : ByteArray} {most : Int} {b : Int × ByteArray} (h : filledA v p name most = .error b) : b.1 ≠ 0 := by
 unfold filledA at h
 split at h
 ·rename_i b' hb'
  injection h with h; subst h
  have := fieldA_codes hb'; omega
 ·split at h
  ·rename_i b' hb'
   injection h with h; subst h
   have := textA_codes hb'; omega
  ·split at h
   ·injection h with h; subst h; simp
   ·cases h
theorem varA_eq (v : V) (p : ByteArray) : varA v p = perhapsA v p nVar 64 := rfl
end Go.Proofs.YtoimjnmhinfbkaaGreatDoor

namespace Go.Proofs.YtoimjnmhinfbkaaGreatDoor
open Go.RowKit
set_option maxRecDepth 100000
/-- a figure of a name: 0 to 9, a to f. -/
def lowhex (c : UInt8) : Bool := dig c || (97 ≤ c && c ≤ 102)
/-- a blob's name. -/
def nameB (l : List UInt8) : Bool := l.length == 71 && l.take 7 == [115, 104, 97, 50, 53, 54, 58] && (l.drop 7).all lowhex
end Go.Proofs.YtoimjnmhinfbkaaGreatDoor

namespace Go.Proofs.YtoimjnmhinfbkaaGreatDoor
open Go.RowKit
set_option maxRecDepth 100000
/-- figures in pairs. -/
def hexB (l : List UInt8) : Bool := l.length % 2 == 0 && l.all lowhex
theorem hex_index (c : UInt8) : (Lib.indexByte [48, 49, 50, 51, 52, 53, 54, 55, 56, 57, 97, 98, 99, 100, 101, 102] c < 0) ↔ lowhex c = false := by
 have h : ∀ n : Fin 256, (Lib.indexByte [48, 49, 50, 51, 52, 53, 54, 55, 56, 57, 97, 98, 99, 100, 101, 102] (UInt8.ofNat n.val) < 0) ↔ lowhex (UInt8.ofNat n.val) = false := by decide +kernel
 have := h ⟨c.toNat, c.toNat_lt⟩
 simpa using this
theorem name_parts (l : List UInt8) : nameB l = (Lib.hasPrefix l [115, 104, 97, 50, 53, 54, 58] && hexB (Lib.trimPrefix l [115, 104, 97, 50, 53, 54, 58]) && ((Lib.trimPrefix l [115, 104, 97, 50, 53, 54, 58]).length / 2 == 32)) := by
 unfold Lib.trimPrefix Lib.hasPrefix
 cases hp : ([115, 104, 97, 50, 53, 54, 58] : List UInt8).isPrefixOf l with
 | false =>
  simp only [Bool.false_and]
  have hne : ¬ l.take 7 = [115, 104, 97, 50, 53, 54, 58] := fun e => by
   have : ([115, 104, 97, 50, 53, 54, 58] : List UInt8) <+: l := by rw [← e]; exact List.take_prefix 7 l
   rw [← List.isPrefixOf_iff_prefix, hp] at this
   cases this
  simp [nameB, hne]
 | true =>
  obtain ⟨t, rfl⟩ := List.isPrefixOf_iff_prefix.1 hp
  simp only [if_true, Bool.true_and]
  have e1 : (([115, 104, 97, 50, 53, 54, 58] : List UInt8) ++ t).drop ([115, 104, 97, 50, 53, 54, 58] : List UInt8).length = t := List.drop_left
  rw [e1]
  have e2 : (([115, 104, 97, 50, 53, 54, 58] : List UInt8) ++ t).take 7 = [115, 104, 97, 50, 53, 54, 58] := rfl
  have e3 : (([115, 104, 97, 50, 53, 54, 58] : List UInt8) ++ t).drop 7 = t := rfl
  have e4 : (([115, 104, 97, 50, 53, 54, 58] : List UInt8) ++ t).length = 7 + t.length := by simp; omega
  unfold nameB hexB
  rw [e2, e3, e4]
  cases t.all lowhex with
  | false => simp
  | true =>
   simp only [Bool.and_true, beq_self_eq_true]
   rw [Bool.eq_iff_iff]
   simp
   omega
end Go.Proofs.YtoimjnmhinfbkaaGreatDoor

namespace Go.Proofs.YtoimjnmhinfbkaaGreatDoor
open Go.RowKit
set_option maxRecDepth 100000
theorem info5 : (Tryz.prog.info? 5).map (fun i => (i.zero, i.size, i.bytes)) = some (some (.int .u8 0), 1, 1) := by kernel_rfl
def leftOf : Value → Nat
 | .string s => s.size
 | _ => 0
/-- a figure's place among the sixteen. -/
def hexI (c : UInt8) : Int := Lib.indexByte [48, 49, 50, 51, 52, 53, 54, 55, 56, 57, 97, 98, 99, 100, 101, 102] c
theorem hexI_neg (c : UInt8) : hexI c < 0 ↔ lowhex c = false := hex_index c
theorem index_hex (c : UInt8) (w : World) : Calls Tryz.prog 168 #[.string ⟨#[48, 49, 50, 51, 52, 53, 54, 55, 56, 57, 97, 98, 99, 100, 101, 102]⟩, .int .u8 c.toNat] w fun e w' => e = .returned (.int .i64 (hexI c)) ∧ w' = w :=
 (Tryz.strings_IndexByte ⟨#[48, 49, 50, 51, 52, 53, 54, 55, 56, 57, 97, 98, 99, 100, 101, 102]⟩ c.toNat w).mono fun e w' ⟨h1, h2⟩ => ⟨by rw [h1]; unfold hexI; simp, h2⟩
/-- a byte of two figures, as the code reckons it. -/
def pairV (c d : UInt8) : Value := .int .u8 (bits BinOp.or IntKind.i64 (wrap64 (hexI c * 16)) (hexI d) % 256)
def unhexV : List UInt8 → List Value
 | c :: d :: t => pairV c d :: unhexV t
 | _ => []
theorem unhexV_take (l : List UInt8) : ∀ (j : Nat) (h : 2 * j + 1 < l.length), unhexV (l.take (2 * (j + 1))) = unhexV (l.take (2 * j)) ++ [pairV l[2 * j] l[2 * j + 1]] := by
 intro j
 induction j generalizing l with
 | zero =>
  intro h
  match l, h with
  | c :: d :: t, _ => simp [unhexV]
 | succ j ih =>
  intro h
  match l, h with
  | c :: d :: t, h =>
   have := ih t (by simp at h; omega)
   simp only [show 2 * (j + 1 + 1) = 2 * (j + 1) + 1 + 1 by omega, show 2 * (j + 1) = 2 * j + 1 + 1 by omega, List.take_succ_cons, unhexV, List.cons_append, List.getElem_cons_succ] at this ⊢
   rw [this]
theorem unhexV_int (l : List UInt8) : ∀ v ∈ unhexV l, v.oneCell' = true := by
 match l with
 | [] => intro v h; cases h
 | [_] => intro v h; cases h
 | c :: d :: t =>
  intro v h
  rcases List.mem_cons.1 h with rfl | h
  ·rfl
  ·exact unhexV_int t v h
def UnhexRes (w : World) (l : List UInt8) (e : Ending) (w' : World) : Prop :=
 ((hexB l = true ∧ ∃ v, e = .returned (.tuple #[v, .nilIface]) ∧ w'.ownsRow w.heap.size 5 1 v (l.length / 2) (unhexV l)) ∨ (hexB l = false ∧ e = .returned (.tuple #[.slice none 0 0, .iface 35 (.int .i64 2)]))) ∧ Below w.heap.size w w'
theorem UnhexRes.yes {w w' : World} {l : List UInt8} {v : Value} (h : hexB l = true) (ho : w'.ownsRow w.heap.size 5 1 v (l.length / 2) (unhexV l)) (hb : Below w.heap.size w w') : UnhexRes w l (.returned (.tuple #[v, .nilIface])) w' :=
 ⟨.inl ⟨h, v, rfl, ho⟩, hb⟩
theorem UnhexRes.no {w w' : World} {l : List UInt8} (h : hexB l = false) (hb : Below w.heap.size w w') : UnhexRes w l (.returned (.tuple #[.slice none 0 0, .iface 35 (.int .i64 2)])) w' :=
 ⟨.inr ⟨h, rfl⟩, hb⟩
theorem unhex_odd (l : List UInt8) (w : World) (hl : l.length ≤ 1073741824) (h2 : l.length % 2 = 1) : Calls Tryz.prog 134 #[.string ⟨l.toArray⟩] w (UnhexRes w l) := by
 have hh := Lib.hid (show hexB l = false by simp [hexB, h2])
 have hm : ((l.length : Int) % 2 != 0) = true := by simp; omega
 have hm2 : ((l.length : Int).tmod 2) = 1 := by rw [Int.tmod_eq_emod_of_nonneg (by omega)]; omega
 have hm3 : (l.length : Int) % 2 = 1 := by omega
 clear h2
 go_enter Tryz.func134, Tryz.ntmps134
 go_wp2
 go_ret2
 exact UnhexRes.no hh.out (Below.refl _ _)
/-- a round of the loop is so far. -/
def HexInv (w : World) (l : List UInt8) (s : Value) (v : Value) (j : Nat) (wr : World) : Prop :=
 2 * j ≤ l.length ∧ s = .string ⟨(l.drop (2 * j)).toArray⟩ ∧ (l.take (2 * j)).all lowhex = true ∧ wr.ownsRow w.heap.size 5 1 v j (unhexV (l.take (2 * j))) ∧ Below w.heap.size w wr
theorem owns_drewN {w : World} {base : Nat} {e : TypeId} {size : Nat} {v : Value} {n : Nat} {xs : List Value} {cs : Array Value} {t : TypeId} (h : w.ownsRow base e size v n xs) (k : Nat) : ((w.drewN k).alloc (.cells cs t)).ownsRow base e size v n xs := by
 refine World.ownsRow.alloc ?_ _
 exact h
set_option maxHeartbeats 1600000 in
theorem unhex_even (l : List UInt8) (w : World) (hl : l.length ≤ 1073741824) (h2 : l.length % 2 = 0) : Calls Tryz.prog 134 #[.string ⟨l.toArray⟩] w (UnhexRes w l) := by
 obtain ⟨i0, hi0, hz0, hzz1, hzz2⟩ := info_parts info5
 have hm : ((l.length : Int) % 2 != 0) = false := by simp; omega
 have hm2 : ((l.length : Int).tmod 2) = 0 := by rw [Int.tmod_eq_emod_of_nonneg (by omega)]; omega
 have hm3 : (l.length : Int) % 2 = 0 := by omega
 have H2 := Lib.hid h2
 clear h2
 go_enter Tryz.func134, Tryz.ntmps134
 go_wp2
 clear hm hm2 hm3
 go_loopw [0, 4] (fun s v wr => ∃ (j : Nat), HexInv w l s v j wr) (fun s _ _ => leftOf s)
 case atStart => exact ⟨0, by omega, rfl, by simp, World.ownsRow_nil _ _ _ _, Below.refl _ _⟩
 case round =>
  obtain ⟨j, hj, rfl, hd, hown, hb⟩ := hrel
  have HD := Lib.hid hd
  have HO := Lib.hid hown
  have HB := Lib.hid hb
  clear hd hown hb
  by_cases hlt : 2 * j = l.length
  ·have hall : hexB l = true := by
    have := HD.out
    rw [List.take_of_length_le (by omega)] at this
    simp [hexB, H2.out, this]
   have hjl : l.length / 2 = j := by omega
   have HALL := Lib.hid hall
   have HJL := Lib.hid hjl
   have e0 : l.drop (2 * j) = [] := List.drop_eq_nil_of_le (by omega)
   rw [e0]
   clear hall hjl e0 hlt
   go_wp2
   go_ret2
   exact UnhexRes.yes HALL.out (by rw [HJL.out]; have h := HO.out; rwa [List.take_of_length_le (by have := H2.out; have := HJL.out; omega)] at h) HB.out
  ·have hlt2 : 2 * j + 1 < l.length := by have := H2.out; omega
   generalize hgs : (⟨(l.drop (2 * j)).toArray⟩ : ByteArray) = s
   have hsz : s.size = l.length - 2 * j := by rw [← hgs]; show (l.drop (2 * j)).length = _; simp
   have s0 : 0 < s.size := by omega
   have s1 : 1 < s.size := by omega
   have g0 : s[0]'s0 = l[2 * j] := by
    subst hgs
    rw [ba_get _ _ (by simp; omega)]; simp
   have g1 : s[1]'s1 = l[2 * j + 1] := by
    subst hgs
    rw [ba_get _ _ (by simp; omega)]; simp
   have gx : s.extract 2 (l.length - 2 * j) = ⟨(l.drop (2 * (j + 1))).toArray⟩ := by
    rw [← hgs, ba_extract]
    congr 2
    rw [List.take_of_length_le (by simp; omega), List.drop_drop]
    congr 1
   have gl : ¬ s.toList = [] := fun h => by
    have := congrArg List.length h
    rw [← hgs, ByteArray.toList_eq] at this
    simp at this; omega
   clear hgs
   have s2 : (2 : Int) ≤ (s.size : Int) := by omega
   have s1i : (1 : Int) < (s.size : Int) := by omega
   have s0i : (0 : Int) < (s.size : Int) := by omega
   have sm : s.size ≤ 1073741824 := by omega
   have gl2 : (!s.toList.isEmpty) = true := by cases h : s.toList <;> simp_all
   have HGX := Lib.hid gx
   have HSZ := Lib.hid hsz
   have hbad : ∀ i, ∀ h : i < l.length, lowhex l[i] = false → hexB l = false := fun i h hx => by
    have : l.all lowhex = false := by
     rw [List.all_eq_false]
     exact ⟨l[i], List.getElem_mem h, by simp [hx]⟩
    simp [hexB, this]
   have B0 := Lib.hid (fun hx : lowhex l[2 * j] = false => hbad (2 * j) (by omega) hx)
   have B1 := Lib.hid (fun hx : lowhex l[2 * j + 1] = false => hbad (2 * j + 1) (by omega) hx)
   have hgood : lowhex l[2 * j] = true → lowhex l[2 * j + 1] = true → (l.take (2 * (j + 1))).all lowhex = true := fun ha hb => by
    rw [show 2 * (j + 1) = (2 * j + 1) + 1 by omega, List.take_succ_eq_append_getElem (by omega), List.take_succ_eq_append_getElem (by omega), List.all_append, List.all_append, HD.out]
    simp [ha, hb]
   have HGOOD := Lib.hid hgood
   have N0 := hexI_neg (s[0]'s0)
   have N1 := hexI_neg (s[1]'s1)
   rw [g0] at N0
   rw [g1] at N1
   have G0 := Lib.hid g0
   have G1 := Lib.hid g1
   have HN0 := Lib.hid N0
   have HN1 := Lib.hid N1
   clear gx hsz hbad hgood N0 N1 g0 g1
   by_cases c0 : hexI (s[0]'s0) < 0
   ·have hno := Lib.hid (B0.out (HN0.out.1 (by rw [← G0.out]; exact c0)))
    go_wp2_with fail
    go_quiet ((go_at_call 168; exact Calls.quiet_of_same (index_hex _ _)))
    go_wp2
    go_ret2
    exact UnhexRes.no hno.out (below_drewN HB.out _)
   ·by_cases c1 : hexI (s[1]'s1) < 0
    ·have hno := Lib.hid (B1.out (HN1.out.1 (by rw [← G1.out]; exact c1)))
     go_wp2_with fail
     go_quiet ((go_at_call 168; exact Calls.quiet_of_same (index_hex _ _)))
     go_wp2
     go_ret2
     exact UnhexRes.no hno.out (below_drewN HB.out _)
    ·go_wp2_with fail
     go_quiet ((go_at_call 168; exact Calls.quiet_of_same (index_hex _ _)))
     have hok := Lib.hid (HGOOD.out (by cases hx : lowhex l[2 * j] with | true => rfl | false => exact absurd (show hexI (s[0]'s0) < 0 by rw [G0.out]; exact HN0.out.2 hx) (by omega)) (by cases hx : lowhex l[2 * j + 1] with | true => rfl | false => exact absurd (show hexI (s[1]'s1) < 0 by rw [G1.out]; exact HN1.out.2 hx) (by omega)))
     go_wp2_with (at_builtin; (refine wpList_append_own_at _ rfl _ _ 87 rfl w.heap.size 5 i0 (.int .u8 0) 1 1 Tryz.underlying87 hi0 hz0 hzz1 hzz2 rfl (by omega) _ j _ rfl (owns_drewN HO.out _) ⟨wr.heap.size, 0, none⟩ 1 1 [_] rfl rfl (cell_one_new _ _ _) (by simp [Value.oneCell']) (by unfold maxLen; omega) (by omega) (by have := HB.out.size; simp; omega) ?_; intro v' w1 hown' hgrow hnil hloc))
     have hb1 : Below w.heap.size w w1 := ((below_drewN HB.out _).alloc HB.out.size _).grown hgrow (by have := HB.out.size; simp; omega) (fun k hk => (HO.out.lt k hk).1)
     have HB1 := Lib.hid hb1
     have HO1 := Lib.hid (show w1.ownsRow w.heap.size 5 1 v' (j + 1) (unhexV (l.take (2 * (j + 1)))) by rw [unhexV_take l j hlt2, ← G0.out, ← G1.out]; exact hown')
     clear hb1 hown' hgrow hnil hloc
     go_wp2
     go_roundw
     case rel =>
      refine ⟨j + 1, by omega, ?_, hok.out, HO1.out, HB1.out⟩
      rw [← HGX.out, ← HSZ.out]
     case measure => simp [leftOf, ByteArray.size_extract]; omega
theorem unhex_any (l : List UInt8) (w : World) (hl : l.length ≤ 1073741824) : Calls Tryz.prog 134 #[.string ⟨l.toArray⟩] w (UnhexRes w l) := by
 rcases Nat.mod_two_eq_zero_or_one l.length with h | h
 ·exact unhex_even l w hl h
 ·exact unhex_odd l w hl h
end Go.Proofs.YtoimjnmhinfbkaaGreatDoor
