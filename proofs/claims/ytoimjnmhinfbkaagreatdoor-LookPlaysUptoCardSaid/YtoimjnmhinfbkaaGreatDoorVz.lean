import Derived.Test.YtoimjnmhinfbkaaGreatDoorMh
namespace Go.Proofs.YtoimjnmhinfbkaaGreatDoor
open Go.RowKit
set_option maxRecDepth 100000

/-- what document answers. -/
def DocStep (w : World) (S : Nat → Prop) (v : V) (p tx : ByteArray) (tn : Int) (ti : Bool) (c : Int) (wh : ByteArray) (e : Ending) (w' : World) : Prop :=
  ∃ cs, e = .returned (.tuple #[docCells cs p 0 ⟨#[]⟩, .agg #[.string tx, .int .i64 tn, .bool ti, .int .i64 c, .string wh]]) ∧ v.Rep w' (fun b => S b ∧ b < w.heap.size) cs ∧ Below w.heap.size w w'

theorem DocStep.of {w w1 W' : World} {S : Nat → Prop} {v : V} {p tx : ByteArray} {tn : Int} {ti : Bool} {c : Int} {wh : ByteArray} {e : Ending} {cs : List Value} (hb1 : Below w.heap.size w w1) (hal : Also (fun b => b < w.heap.size) w1 W') (hb : Below w.heap.size w W')
    (hrep : v.Rep w1 (fun b => S b ∧ b < w.heap.size) cs) (he : e = .returned (.tuple #[docCells cs p 0 ⟨#[]⟩, .agg #[.string tx, .int .i64 tn, .bool ti, .int .i64 c, .string wh]])) : DocStep w S v p tx tn ti c wh e W' :=
  ⟨cs, he, hrep.also hal fun b hb hlt => ⟨hb.2, hb⟩, hb⟩

section
variable (k : Int) (t : Bool) (x : ByteArray) (A : Option Addr) (nl ca : Nat) (B : Option Addr) (nn cb : Nat) (p : ByteArray) (kd n most : Int) (name : ByteArray) (T : Option Addr) (nt ct : Nat) (w : World)

--GEN
set_option maxHeartbeats 1000000 in
theorem d0_bad (hk : (IntKind.u64.wrap kd).tmod 9 = 0) (S : Nat → Prop) (v : V) (hv : v.Rep w S [.int .i64 k, .bool t, .string x, .slice A nl ca, .slice B nn cb]) (c : Int) (s : ByteArray) (h : ∀ w', Below w.heap.size w w' → Calls Tryz.prog 62 #[.agg #[.int .i64 k, .bool t, .string x, .slice A nl ca, .slice B nn cb, .string p, .int .i64 0, .string ⟨#[]⟩], .string name, .bool true] w' fun e w1 => e = .returned (.tuple #[docBad c s, .bool false]) ∧ Below w'.heap.size w' w1) :
    Calls Tryz.prog 19 #[.agg #[.int .i64 k, .bool t, .string x, .slice A nl ca, .slice B nn cb, .string p, .int .i64 0, .string ⟨#[]⟩], .agg #[.int .i64 kd, .int .i64 n, .int .i64 most, .string name, .slice T nt ct]] w (DocStep w S v p ⟨#[]⟩ 0 false c s) := by
  have H := Lib.hid h
  have HV := Lib.hid hv
  clear h hv
  go_enter Tryz.func19, Tryz.ntmps19
  go_wp2_with fail
  refine (H.out _ (by (repeat (first | with_reducible refine Below.alloc ?_ (by first | (simp; done) | (simp; omega)) _)); exact Below.refl _ _)).mono ?_
  rintro e w1 ⟨rfl, hb1⟩
  unfold docBad
  obtain ⟨hc1, hf1⟩ := bcell hb1
  have hz1 : w.heap.size + 1 + 1 + 1 + 1 + 1 + 1 + 1 ≤ w1.heap.size := by have := hb1.size; simp at this; omega
  have y0 : w.heap.size < w1.heap.size := by omega
  have y1 : w.heap.size + 1 < w1.heap.size := by omega
  have y2 : w.heap.size + 1 + 1 < w1.heap.size := by omega
  have y3 : w.heap.size + 1 + 1 + 1 < w1.heap.size := by omega
  have y4 : w.heap.size + 1 + 1 + 1 + 1 < w1.heap.size := by omega
  have y5 : w.heap.size + 1 + 1 + 1 + 1 + 1 < w1.heap.size := by omega
  have y6 : w.heap.size + 1 + 1 + 1 + 1 + 1 + 1 < w1.heap.size := by omega
  have HB1 := Lib.hid (show Below w.heap.size w w1 from Below.trans (by (repeat (first | with_reducible refine Below.alloc ?_ (by first | (simp; done) | (simp; omega)) _)); exact Below.refl _ _) (hb1.mono (by simp; omega)))
  clear hb1
  go_wp2_with fail
  go_region
  all_goals
   go_wp2_with fail
   go_region
   go_wp2
   refine bodyPost_ret (v := .tuple #[docCells [.int .i64 k, .bool t, .string x, .slice A nl ca, .slice B nn cb] p 0 ⟨#[]⟩, .agg #[.string ⟨#[]⟩, .int .i64 0, .bool false, .int .i64 c, .string s]]) (by simp [results, docCells, Tryz.results19, go_sem, hc1, y2, y3]) rfl ?_
   refine DocStep.of HB1.out ?_ ?_ (HV.out.agree fun b hb hlt => ⟨HB1.out.block b hlt, hb, hlt⟩) rfl
   · (repeat (first | with_reducible refine Also.drew ?_ | with_reducible refine Also.setCell ?_ (by simp; try omega) _ | with_reducible refine Also.alloc ?_ _))
     exact Also.refl _ _
   · (repeat (first | with_reducible refine Below.drew ?_ | with_reducible refine Below.setCell ?_ (by simp only; omega) _ | with_reducible refine Below.alloc ?_ (by first | omega | (simp only [setCell_size]; omega)) _))
     exact HB1.out

set_option maxHeartbeats 1000000 in
theorem d0_some (hk : (IntKind.u64.wrap kd).tmod 9 = 0) (S : Nat → Prop) (v' : V) (p' : ByteArray) (h : ∀ w', Below w.heap.size w w' → Calls Tryz.prog 62 #[.agg #[.int .i64 k, .bool t, .string x, .slice A nl ca, .slice B nn cb, .string p, .int .i64 0, .string ⟨#[]⟩], .string name, .bool true] w' fun e w1 => ∃ cs, e = .returned (.tuple #[docCells cs p' 0 ⟨#[]⟩, .bool true]) ∧ v'.Rep w1 (fun b => S b ∧ b < w.heap.size) cs ∧ Below w'.heap.size w' w1) :
    Calls Tryz.prog 19 #[.agg #[.int .i64 k, .bool t, .string x, .slice A nl ca, .slice B nn cb, .string p, .int .i64 0, .string ⟨#[]⟩], .agg #[.int .i64 kd, .int .i64 n, .int .i64 most, .string name, .slice T nt ct]] w (DocStep w S v' p' ⟨#[]⟩ 0 false 0 ⟨#[]⟩) := by
  have H := Lib.hid h

  clear h
  go_enter Tryz.func19, Tryz.ntmps19
  go_wp2_with fail
  refine (H.out _ (by (repeat (first | with_reducible refine Below.alloc ?_ (by first | (simp; done) | (simp; omega)) _)); exact Below.refl _ _)).mono ?_
  rintro e w1 ⟨cs1, rfl, hrep, hb1⟩

  obtain ⟨hc1, hf1⟩ := bcell hb1
  have hz1 : w.heap.size + 1 + 1 + 1 + 1 + 1 + 1 + 1 ≤ w1.heap.size := by have := hb1.size; simp at this; omega
  have y0 : w.heap.size < w1.heap.size := by omega
  have y1 : w.heap.size + 1 < w1.heap.size := by omega
  have y2 : w.heap.size + 1 + 1 < w1.heap.size := by omega
  have y3 : w.heap.size + 1 + 1 + 1 < w1.heap.size := by omega
  have y4 : w.heap.size + 1 + 1 + 1 + 1 < w1.heap.size := by omega
  have y5 : w.heap.size + 1 + 1 + 1 + 1 + 1 < w1.heap.size := by omega
  have y6 : w.heap.size + 1 + 1 + 1 + 1 + 1 + 1 < w1.heap.size := by omega
  have HB1 := Lib.hid (show Below w.heap.size w w1 from Below.trans (by (repeat (first | with_reducible refine Below.alloc ?_ (by first | (simp; done) | (simp; omega)) _)); exact Below.refl _ _) (hb1.mono (by simp; omega)))
  have HREP := Lib.hid hrep
  obtain ⟨A1, ca1, B1, cb1, rfl, -⟩ := hrep.open
  clear hrep
  simp only [docCells, List.cons_append, List.nil_append]
  clear hb1
  go_wp2_with fail
  go_region
  all_goals
   go_wp2_with fail
   go_region
   go_wp2
   refine bodyPost_ret (v := .tuple #[docCells [.int .i64 v'.kind, .bool v'.tr, .string v'.text, .slice A1 v'.list.length ca1, .slice B1 v'.names.length cb1] p' 0 ⟨#[]⟩, .agg #[.string ⟨#[]⟩, .int .i64 0, .bool false, .int .i64 0, .string ⟨#[]⟩]]) (by simp [results, docCells, Tryz.results19, go_sem, hc1, y2, y3]) rfl ?_
   refine DocStep.of HB1.out ?_ ?_ HREP.out rfl
   · (repeat (first | with_reducible refine Also.drew ?_ | with_reducible refine Also.setCell ?_ (by simp; try omega) _ | with_reducible refine Also.alloc ?_ _))
     exact Also.refl _ _
   · (repeat (first | with_reducible refine Below.drew ?_ | with_reducible refine Below.setCell ?_ (by simp only; omega) _ | with_reducible refine Below.alloc ?_ (by first | omega | (simp only [setCell_size]; omega)) _))
     exact HB1.out

set_option maxHeartbeats 1000000 in
theorem d1_bad (hk : (IntKind.u64.wrap kd).tmod 9 = 1) (S : Nat → Prop) (v : V) (hv : v.Rep w S [.int .i64 k, .bool t, .string x, .slice A nl ca, .slice B nn cb]) (c : Int) (s : ByteArray) (h : ∀ w', Below w.heap.size w w' → Calls Tryz.prog 62 #[.agg #[.int .i64 k, .bool t, .string x, .slice A nl ca, .slice B nn cb, .string p, .int .i64 0, .string ⟨#[]⟩], .string name, .bool false] w' fun e w1 => e = .returned (.tuple #[docBad c s, .bool false]) ∧ Below w'.heap.size w' w1) :
    Calls Tryz.prog 19 #[.agg #[.int .i64 k, .bool t, .string x, .slice A nl ca, .slice B nn cb, .string p, .int .i64 0, .string ⟨#[]⟩], .agg #[.int .i64 kd, .int .i64 n, .int .i64 most, .string name, .slice T nt ct]] w (DocStep w S v p ⟨#[]⟩ 0 false c s) := by
  have H := Lib.hid h
  have HV := Lib.hid hv
  clear h hv
  go_enter Tryz.func19, Tryz.ntmps19
  go_wp2_with fail
  refine (H.out _ (by (repeat (first | with_reducible refine Below.alloc ?_ (by first | (simp; done) | (simp; omega)) _)); exact Below.refl _ _)).mono ?_
  rintro e w1 ⟨rfl, hb1⟩
  unfold docBad
  obtain ⟨hc1, hf1⟩ := bcell hb1
  have hz1 : w.heap.size + 1 + 1 + 1 + 1 + 1 + 1 + 1 ≤ w1.heap.size := by have := hb1.size; simp at this; omega
  have y0 : w.heap.size < w1.heap.size := by omega
  have y1 : w.heap.size + 1 < w1.heap.size := by omega
  have y2 : w.heap.size + 1 + 1 < w1.heap.size := by omega
  have y3 : w.heap.size + 1 + 1 + 1 < w1.heap.size := by omega
  have y4 : w.heap.size + 1 + 1 + 1 + 1 < w1.heap.size := by omega
  have y5 : w.heap.size + 1 + 1 + 1 + 1 + 1 < w1.heap.size := by omega
  have y6 : w.heap.size + 1 + 1 + 1 + 1 + 1 + 1 < w1.heap.size := by omega
  have HB1 := Lib.hid (show Below w.heap.size w w1 from Below.trans (by (repeat (first | with_reducible refine Below.alloc ?_ (by first | (simp; done) | (simp; omega)) _)); exact Below.refl _ _) (hb1.mono (by simp; omega)))
  clear hb1
  go_wp2_with fail
  go_region
  all_goals
   go_wp2_with fail
   go_region
   go_wp2
   refine bodyPost_ret (v := .tuple #[docCells [.int .i64 k, .bool t, .string x, .slice A nl ca, .slice B nn cb] p 0 ⟨#[]⟩, .agg #[.string ⟨#[]⟩, .int .i64 0, .bool false, .int .i64 c, .string s]]) (by simp [results, docCells, Tryz.results19, go_sem, hc1, y2, y3]) rfl ?_
   refine DocStep.of HB1.out ?_ ?_ (HV.out.agree fun b hb hlt => ⟨HB1.out.block b hlt, hb, hlt⟩) rfl
   · (repeat (first | with_reducible refine Also.drew ?_ | with_reducible refine Also.setCell ?_ (by simp; try omega) _ | with_reducible refine Also.alloc ?_ _))
     exact Also.refl _ _
   · (repeat (first | with_reducible refine Below.drew ?_ | with_reducible refine Below.setCell ?_ (by simp only; omega) _ | with_reducible refine Below.alloc ?_ (by first | omega | (simp only [setCell_size]; omega)) _))
     exact HB1.out

set_option maxHeartbeats 1000000 in
theorem d1_some (hk : (IntKind.u64.wrap kd).tmod 9 = 1) (S : Nat → Prop) (v' : V) (p' : ByteArray) (h : ∀ w', Below w.heap.size w w' → Calls Tryz.prog 62 #[.agg #[.int .i64 k, .bool t, .string x, .slice A nl ca, .slice B nn cb, .string p, .int .i64 0, .string ⟨#[]⟩], .string name, .bool false] w' fun e w1 => ∃ cs, e = .returned (.tuple #[docCells cs p' 0 ⟨#[]⟩, .bool true]) ∧ v'.Rep w1 (fun b => S b ∧ b < w.heap.size) cs ∧ Below w'.heap.size w' w1) :
    Calls Tryz.prog 19 #[.agg #[.int .i64 k, .bool t, .string x, .slice A nl ca, .slice B nn cb, .string p, .int .i64 0, .string ⟨#[]⟩], .agg #[.int .i64 kd, .int .i64 n, .int .i64 most, .string name, .slice T nt ct]] w (DocStep w S v' p' ⟨#[]⟩ 0 true 0 ⟨#[]⟩) := by
  have H := Lib.hid h

  clear h
  go_enter Tryz.func19, Tryz.ntmps19
  go_wp2_with fail
  refine (H.out _ (by (repeat (first | with_reducible refine Below.alloc ?_ (by first | (simp; done) | (simp; omega)) _)); exact Below.refl _ _)).mono ?_
  rintro e w1 ⟨cs1, rfl, hrep, hb1⟩

  obtain ⟨hc1, hf1⟩ := bcell hb1
  have hz1 : w.heap.size + 1 + 1 + 1 + 1 + 1 + 1 + 1 ≤ w1.heap.size := by have := hb1.size; simp at this; omega
  have y0 : w.heap.size < w1.heap.size := by omega
  have y1 : w.heap.size + 1 < w1.heap.size := by omega
  have y2 : w.heap.size + 1 + 1 < w1.heap.size := by omega
  have y3 : w.heap.size + 1 + 1 + 1 < w1.heap.size := by omega
  have y4 : w.heap.size + 1 + 1 + 1 + 1 < w1.heap.size := by omega
  have y5 : w.heap.size + 1 + 1 + 1 + 1 + 1 < w1.heap.size := by omega
  have y6 : w.heap.size + 1 + 1 + 1 + 1 + 1 + 1 < w1.heap.size := by omega
  have HB1 := Lib.hid (show Below w.heap.size w w1 from Below.trans (by (repeat (first | with_reducible refine Below.alloc ?_ (by first | (simp; done) | (simp; omega)) _)); exact Below.refl _ _) (hb1.mono (by simp; omega)))
  have HREP := Lib.hid hrep
  obtain ⟨A1, ca1, B1, cb1, rfl, -⟩ := hrep.open
  clear hrep
  simp only [docCells, List.cons_append, List.nil_append]
  clear hb1
  go_wp2_with fail
  go_region
  all_goals
   go_wp2_with fail
   go_region
   go_wp2
   refine bodyPost_ret (v := .tuple #[docCells [.int .i64 v'.kind, .bool v'.tr, .string v'.text, .slice A1 v'.list.length ca1, .slice B1 v'.names.length cb1] p' 0 ⟨#[]⟩, .agg #[.string ⟨#[]⟩, .int .i64 0, .bool true, .int .i64 0, .string ⟨#[]⟩]]) (by simp [results, docCells, Tryz.results19, go_sem, hc1, y2, y3]) rfl ?_
   refine DocStep.of HB1.out ?_ ?_ HREP.out rfl
   · (repeat (first | with_reducible refine Also.drew ?_ | with_reducible refine Also.setCell ?_ (by simp; try omega) _ | with_reducible refine Also.alloc ?_ _))
     exact Also.refl _ _
   · (repeat (first | with_reducible refine Below.drew ?_ | with_reducible refine Below.setCell ?_ (by simp only; omega) _ | with_reducible refine Below.alloc ?_ (by first | omega | (simp only [setCell_size]; omega)) _))
     exact HB1.out

set_option maxHeartbeats 1000000 in
theorem d2_empty (hk : (IntKind.u64.wrap kd).tmod 9 = 2) (S : Nat → Prop) (v : V) (hv : v.Rep w S [.int .i64 k, .bool t, .string x, .slice A nl ca, .slice B nn cb]) (c : Int) (s : ByteArray) (h : ∀ w', Below w.heap.size w w' → Calls Tryz.prog 63 #[.agg #[.int .i64 k, .bool t, .string x, .slice A nl ca, .slice B nn cb, .string p, .int .i64 0, .string ⟨#[]⟩], .int .i64 most] w' fun e w1 => ∃ A' c', e = .returned (.tuple #[.slice A' 0 c', docBad c s]) ∧ Below w'.heap.size w' w1) :
    Calls Tryz.prog 19 #[.agg #[.int .i64 k, .bool t, .string x, .slice A nl ca, .slice B nn cb, .string p, .int .i64 0, .string ⟨#[]⟩], .agg #[.int .i64 kd, .int .i64 n, .int .i64 most, .string name, .slice T nt ct]] w (DocStep w S v p ⟨#[]⟩ 0 false c s) := by
  have H := Lib.hid h
  have HV := Lib.hid hv
  clear h hv
  go_enter Tryz.func19, Tryz.ntmps19
  go_wp2_with fail
  refine (H.out _ (by (repeat (first | with_reducible refine Below.alloc ?_ (by first | (simp; done) | (simp; omega)) _)); exact Below.refl _ _)).mono ?_
  rintro e w1 ⟨A', c', rfl, hb1⟩
  unfold docBad
  obtain ⟨hc1, hf1⟩ := bcell hb1
  have hz1 : w.heap.size + 1 + 1 + 1 + 1 + 1 + 1 + 1 ≤ w1.heap.size := by have := hb1.size; simp at this; omega
  have y0 : w.heap.size < w1.heap.size := by omega
  have y1 : w.heap.size + 1 < w1.heap.size := by omega
  have y2 : w.heap.size + 1 + 1 < w1.heap.size := by omega
  have y3 : w.heap.size + 1 + 1 + 1 < w1.heap.size := by omega
  have y4 : w.heap.size + 1 + 1 + 1 + 1 < w1.heap.size := by omega
  have y5 : w.heap.size + 1 + 1 + 1 + 1 + 1 < w1.heap.size := by omega
  have y6 : w.heap.size + 1 + 1 + 1 + 1 + 1 + 1 < w1.heap.size := by omega
  have HB1 := Lib.hid (show Below w.heap.size w w1 from Below.trans (by (repeat (first | with_reducible refine Below.alloc ?_ (by first | (simp; done) | (simp; omega)) _)); exact Below.refl _ _) (hb1.mono (by simp; omega)))
  clear hb1
  go_wp2_with fail
  go_region
  all_goals
   go_wp2_with fail
   go_region
   go_wp2
   refine bodyPost_ret (v := .tuple #[docCells [.int .i64 k, .bool t, .string x, .slice A nl ca, .slice B nn cb] p 0 ⟨#[]⟩, .agg #[.string ⟨#[]⟩, .int .i64 0, .bool false, .int .i64 c, .string s]]) (by simp [results, docCells, Tryz.results19, go_sem, hc1, y2, y3]) rfl ?_
   refine DocStep.of HB1.out ?_ ?_ (HV.out.agree fun b hb hlt => ⟨HB1.out.block b hlt, hb, hlt⟩) rfl
   · (repeat (first | with_reducible refine Also.drew ?_ | with_reducible refine Also.setCell ?_ (by simp; try omega) _ | with_reducible refine Also.alloc ?_ _))
     exact Also.refl _ _
   · (repeat (first | with_reducible refine Below.drew ?_ | with_reducible refine Below.setCell ?_ (by simp only; omega) _ | with_reducible refine Below.alloc ?_ (by first | omega | (simp only [setCell_size]; omega)) _))
     exact HB1.out

set_option maxHeartbeats 1000000 in
theorem d2_pick (hk : (IntKind.u64.wrap kd).tmod 9 = 2) (S : Nat → Prop) (v' : V) (p' : ByteArray) (N j : Nat) (hN : N ≤ 4194304) (hjN : j < N) (hj : (IntKind.u64.wrap n).tmod (N : Int) = (j : Int)) (h : ∀ w', Below w.heap.size w w' → Calls Tryz.prog 63 #[.agg #[.int .i64 k, .bool t, .string x, .slice A nl ca, .slice B nn cb, .string p, .int .i64 0, .string ⟨#[]⟩], .int .i64 most] w' fun e w1 => ∃ g c' cs, e = .returned (.tuple #[.slice (some ⟨g, 0, none⟩) N c', docBad 0 ⟨#[]⟩]) ∧ Row w1 g (8 * j) (cs ++ [.string p', .int .i64 0, .string ⟨#[]⟩]) ∧ w'.heap.size ≤ g ∧ v'.Rep w1 (fun b => S b ∧ b < w.heap.size) cs ∧ Below w'.heap.size w' w1) :
    Calls Tryz.prog 19 #[.agg #[.int .i64 k, .bool t, .string x, .slice A nl ca, .slice B nn cb, .string p, .int .i64 0, .string ⟨#[]⟩], .agg #[.int .i64 kd, .int .i64 n, .int .i64 most, .string name, .slice T nt ct]] w (DocStep w S v' p' ⟨#[]⟩ N false 0 ⟨#[]⟩) := by
  have H := Lib.hid h

  clear h
  go_enter Tryz.func19, Tryz.ntmps19
  go_wp2_with fail
  refine (H.out _ (by (repeat (first | with_reducible refine Below.alloc ?_ (by first | (simp; done) | (simp; omega)) _)); exact Below.refl _ _)).mono ?_
  rintro e w1 ⟨g, c', cs1, rfl, hrow, hgw, hrep, hb1⟩
  unfold docBad
  obtain ⟨hc1, hf1⟩ := bcell hb1
  have hz1 : w.heap.size + 1 + 1 + 1 + 1 + 1 + 1 + 1 ≤ w1.heap.size := by have := hb1.size; simp at this; omega
  have y0 : w.heap.size < w1.heap.size := by omega
  have y1 : w.heap.size + 1 < w1.heap.size := by omega
  have y2 : w.heap.size + 1 + 1 < w1.heap.size := by omega
  have y3 : w.heap.size + 1 + 1 + 1 < w1.heap.size := by omega
  have y4 : w.heap.size + 1 + 1 + 1 + 1 < w1.heap.size := by omega
  have y5 : w.heap.size + 1 + 1 + 1 + 1 + 1 < w1.heap.size := by omega
  have y6 : w.heap.size + 1 + 1 + 1 + 1 + 1 + 1 < w1.heap.size := by omega
  have HB1 := Lib.hid (show Below w.heap.size w w1 from Below.trans (by (repeat (first | with_reducible refine Below.alloc ?_ (by first | (simp; done) | (simp; omega)) _)); exact Below.refl _ _) (hb1.mono (by simp; omega)))
  have HREP := Lib.hid hrep
  obtain ⟨A1, ca1, B1, cb1, rfl, -⟩ := hrep.open
  clear hrep
  simp only [docCells, List.cons_append, List.nil_append]
  have e0 := hrow 0 (by simp)
  have e1 := hrow 1 (by simp)
  have e2 := hrow 2 (by simp)
  have e3 := hrow 3 (by simp)
  have e4 := hrow 4 (by simp)
  have e5 := hrow 5 (by simp)
  have e6 := hrow 6 (by simp)
  have e7 := hrow 7 (by simp)
  simp at e0 e1 e2 e3 e4 e5 e6 e7
  rw [Nat.mul_comm] at e0 e1 e2 e3 e4 e5 e6 e7
  have hj0 : (0 : Int) ≤ (j : Int) := Int.natCast_nonneg _
  have hj1 : (j : Int) < (N : Int) := by omega
  have hN0 : (0 : Int) < (N : Int) := by omega
  have hNb : (N : Int) ≤ 4194304 := by omega
  have hgz : w.heap.size + 1 + 1 + 1 + 1 + 1 + 1 + 1 ≤ g := by simp at hgw; omega
  clear hgw
  have g2 : ¬ g = w.heap.size + 1 + 1 := by omega
  have g3 : ¬ g = w.heap.size + 1 + 1 + 1 := by omega
  have g4 : ¬ g = w.heap.size + 1 + 1 + 1 + 1 := by omega
  have g5 : ¬ g = w.heap.size + 1 + 1 + 1 + 1 + 1 := by omega
  have g6 : ¬ g = w.heap.size + 1 + 1 + 1 + 1 + 1 + 1 := by omega
  clear hrow
  clear hb1
  go_wp2_with fail
  go_region
  all_goals
   go_wp2_with fail
   go_region
   go_wp2
   refine bodyPost_ret (v := .tuple #[docCells [.int .i64 v'.kind, .bool v'.tr, .string v'.text, .slice A1 v'.list.length ca1, .slice B1 v'.names.length cb1] p' 0 ⟨#[]⟩, .agg #[.string ⟨#[]⟩, .int .i64 N, .bool false, .int .i64 0, .string ⟨#[]⟩]]) (by simp [results, docCells, Tryz.results19, go_sem, hc1, y2, y3]) rfl ?_
   refine DocStep.of HB1.out ?_ ?_ HREP.out rfl
   · (repeat (first | with_reducible refine Also.drew ?_ | with_reducible refine Also.setCell ?_ (by simp; try omega) _ | with_reducible refine Also.alloc ?_ _))
     exact Also.refl _ _
   · (repeat (first | with_reducible refine Below.drew ?_ | with_reducible refine Below.setCell ?_ (by simp only; omega) _ | with_reducible refine Below.alloc ?_ (by first | omega | (simp only [setCell_size]; omega)) _))
     exact HB1.out

set_option maxHeartbeats 1000000 in
theorem d3_empty (hk : (IntKind.u64.wrap kd).tmod 9 = 3) (S : Nat → Prop) (v : V) (hv : v.Rep w S [.int .i64 k, .bool t, .string x, .slice A nl ca, .slice B nn cb]) (c : Int) (s : ByteArray) (h : ∀ w', Below w.heap.size w w' → Calls Tryz.prog 64 #[.agg #[.int .i64 k, .bool t, .string x, .slice A nl ca, .slice B nn cb, .string p, .int .i64 0, .string ⟨#[]⟩]] w' fun e w1 => ∃ A' c', e = .returned (.tuple #[.slice A' 0 c', docBad c s]) ∧ Below w'.heap.size w' w1) :
    Calls Tryz.prog 19 #[.agg #[.int .i64 k, .bool t, .string x, .slice A nl ca, .slice B nn cb, .string p, .int .i64 0, .string ⟨#[]⟩], .agg #[.int .i64 kd, .int .i64 n, .int .i64 most, .string name, .slice T nt ct]] w (DocStep w S v p ⟨#[]⟩ 0 false c s) := by
  have H := Lib.hid h
  have HV := Lib.hid hv
  clear h hv
  go_enter Tryz.func19, Tryz.ntmps19
  go_wp2_with fail
  refine (H.out _ (by (repeat (first | with_reducible refine Below.alloc ?_ (by first | (simp; done) | (simp; omega)) _)); exact Below.refl _ _)).mono ?_
  rintro e w1 ⟨A', c', rfl, hb1⟩
  unfold docBad
  obtain ⟨hc1, hf1⟩ := bcell hb1
  have hz1 : w.heap.size + 1 + 1 + 1 + 1 + 1 + 1 + 1 ≤ w1.heap.size := by have := hb1.size; simp at this; omega
  have y0 : w.heap.size < w1.heap.size := by omega
  have y1 : w.heap.size + 1 < w1.heap.size := by omega
  have y2 : w.heap.size + 1 + 1 < w1.heap.size := by omega
  have y3 : w.heap.size + 1 + 1 + 1 < w1.heap.size := by omega
  have y4 : w.heap.size + 1 + 1 + 1 + 1 < w1.heap.size := by omega
  have y5 : w.heap.size + 1 + 1 + 1 + 1 + 1 < w1.heap.size := by omega
  have y6 : w.heap.size + 1 + 1 + 1 + 1 + 1 + 1 < w1.heap.size := by omega
  have HB1 := Lib.hid (show Below w.heap.size w w1 from Below.trans (by (repeat (first | with_reducible refine Below.alloc ?_ (by first | (simp; done) | (simp; omega)) _)); exact Below.refl _ _) (hb1.mono (by simp; omega)))
  clear hb1
  go_wp2_with fail
  go_region
  all_goals
   go_wp2_with fail
   go_region
   go_wp2
   refine bodyPost_ret (v := .tuple #[docCells [.int .i64 k, .bool t, .string x, .slice A nl ca, .slice B nn cb] p 0 ⟨#[]⟩, .agg #[.string ⟨#[]⟩, .int .i64 0, .bool false, .int .i64 c, .string s]]) (by simp [results, docCells, Tryz.results19, go_sem, hc1, y2, y3]) rfl ?_
   refine DocStep.of HB1.out ?_ ?_ (HV.out.agree fun b hb hlt => ⟨HB1.out.block b hlt, hb, hlt⟩) rfl
   · (repeat (first | with_reducible refine Also.drew ?_ | with_reducible refine Also.setCell ?_ (by simp; try omega) _ | with_reducible refine Also.alloc ?_ _))
     exact Also.refl _ _
   · (repeat (first | with_reducible refine Below.drew ?_ | with_reducible refine Below.setCell ?_ (by simp only; omega) _ | with_reducible refine Below.alloc ?_ (by first | omega | (simp only [setCell_size]; omega)) _))
     exact HB1.out

set_option maxHeartbeats 1000000 in
theorem d3_pick (hk : (IntKind.u64.wrap kd).tmod 9 = 3) (S : Nat → Prop) (v' : V) (p' : ByteArray) (N j : Nat) (hN : N ≤ 4194304) (hjN : j < N) (hj : (IntKind.u64.wrap n).tmod (N : Int) = (j : Int)) (h : ∀ w', Below w.heap.size w w' → Calls Tryz.prog 64 #[.agg #[.int .i64 k, .bool t, .string x, .slice A nl ca, .slice B nn cb, .string p, .int .i64 0, .string ⟨#[]⟩]] w' fun e w1 => ∃ g c' cs, e = .returned (.tuple #[.slice (some ⟨g, 0, none⟩) N c', docBad 0 ⟨#[]⟩]) ∧ Row w1 g (8 * j) (cs ++ [.string p', .int .i64 0, .string ⟨#[]⟩]) ∧ w'.heap.size ≤ g ∧ v'.Rep w1 (fun b => S b ∧ b < w.heap.size) cs ∧ Below w'.heap.size w' w1) :
    Calls Tryz.prog 19 #[.agg #[.int .i64 k, .bool t, .string x, .slice A nl ca, .slice B nn cb, .string p, .int .i64 0, .string ⟨#[]⟩], .agg #[.int .i64 kd, .int .i64 n, .int .i64 most, .string name, .slice T nt ct]] w (DocStep w S v' p' ⟨#[]⟩ N false 0 ⟨#[]⟩) := by
  have H := Lib.hid h

  clear h
  go_enter Tryz.func19, Tryz.ntmps19
  go_wp2_with fail
  refine (H.out _ (by (repeat (first | with_reducible refine Below.alloc ?_ (by first | (simp; done) | (simp; omega)) _)); exact Below.refl _ _)).mono ?_
  rintro e w1 ⟨g, c', cs1, rfl, hrow, hgw, hrep, hb1⟩
  unfold docBad
  obtain ⟨hc1, hf1⟩ := bcell hb1
  have hz1 : w.heap.size + 1 + 1 + 1 + 1 + 1 + 1 + 1 ≤ w1.heap.size := by have := hb1.size; simp at this; omega
  have y0 : w.heap.size < w1.heap.size := by omega
  have y1 : w.heap.size + 1 < w1.heap.size := by omega
  have y2 : w.heap.size + 1 + 1 < w1.heap.size := by omega
  have y3 : w.heap.size + 1 + 1 + 1 < w1.heap.size := by omega
  have y4 : w.heap.size + 1 + 1 + 1 + 1 < w1.heap.size := by omega
  have y5 : w.heap.size + 1 + 1 + 1 + 1 + 1 < w1.heap.size := by omega
  have y6 : w.heap.size + 1 + 1 + 1 + 1 + 1 + 1 < w1.heap.size := by omega
  have HB1 := Lib.hid (show Below w.heap.size w w1 from Below.trans (by (repeat (first | with_reducible refine Below.alloc ?_ (by first | (simp; done) | (simp; omega)) _)); exact Below.refl _ _) (hb1.mono (by simp; omega)))
  have HREP := Lib.hid hrep
  obtain ⟨A1, ca1, B1, cb1, rfl, -⟩ := hrep.open
  clear hrep
  simp only [docCells, List.cons_append, List.nil_append]
  have e0 := hrow 0 (by simp)
  have e1 := hrow 1 (by simp)
  have e2 := hrow 2 (by simp)
  have e3 := hrow 3 (by simp)
  have e4 := hrow 4 (by simp)
  have e5 := hrow 5 (by simp)
  have e6 := hrow 6 (by simp)
  have e7 := hrow 7 (by simp)
  simp at e0 e1 e2 e3 e4 e5 e6 e7
  rw [Nat.mul_comm] at e0 e1 e2 e3 e4 e5 e6 e7
  have hj0 : (0 : Int) ≤ (j : Int) := Int.natCast_nonneg _
  have hj1 : (j : Int) < (N : Int) := by omega
  have hN0 : (0 : Int) < (N : Int) := by omega
  have hNb : (N : Int) ≤ 4194304 := by omega
  have hgz : w.heap.size + 1 + 1 + 1 + 1 + 1 + 1 + 1 ≤ g := by simp at hgw; omega
  clear hgw
  have g2 : ¬ g = w.heap.size + 1 + 1 := by omega
  have g3 : ¬ g = w.heap.size + 1 + 1 + 1 := by omega
  have g4 : ¬ g = w.heap.size + 1 + 1 + 1 + 1 := by omega
  have g5 : ¬ g = w.heap.size + 1 + 1 + 1 + 1 + 1 := by omega
  have g6 : ¬ g = w.heap.size + 1 + 1 + 1 + 1 + 1 + 1 := by omega
  clear hrow
  clear hb1
  go_wp2_with fail
  go_region
  all_goals
   go_wp2_with fail
   go_region
   go_wp2
   refine bodyPost_ret (v := .tuple #[docCells [.int .i64 v'.kind, .bool v'.tr, .string v'.text, .slice A1 v'.list.length ca1, .slice B1 v'.names.length cb1] p' 0 ⟨#[]⟩, .agg #[.string ⟨#[]⟩, .int .i64 N, .bool false, .int .i64 0, .string ⟨#[]⟩]]) (by simp [results, docCells, Tryz.results19, go_sem, hc1, y2, y3]) rfl ?_
   refine DocStep.of HB1.out ?_ ?_ HREP.out rfl
   · (repeat (first | with_reducible refine Also.drew ?_ | with_reducible refine Also.setCell ?_ (by simp; try omega) _ | with_reducible refine Also.alloc ?_ _))
     exact Also.refl _ _
   · (repeat (first | with_reducible refine Below.drew ?_ | with_reducible refine Below.setCell ?_ (by simp only; omega) _ | with_reducible refine Below.alloc ?_ (by first | omega | (simp only [setCell_size]; omega)) _))
     exact HB1.out

set_option maxHeartbeats 1000000 in
theorem d4_any (hk : (IntKind.u64.wrap kd).tmod 9 = 4) (S : Nat → Prop) (v : V) (hv : v.Rep w S [.int .i64 k, .bool t, .string x, .slice A nl ca, .slice B nn cb]) (c : Int) (s : ByteArray) (tx : ByteArray) (h : ∀ w', Below w.heap.size w w' → Calls Tryz.prog 65 #[.agg #[.int .i64 k, .bool t, .string x, .slice A nl ca, .slice B nn cb, .string p, .int .i64 0, .string ⟨#[]⟩], .int .i64 most] w' fun e w1 => e = .returned (.tuple #[.string tx, docBad c s]) ∧ Below w'.heap.size w' w1) :
    Calls Tryz.prog 19 #[.agg #[.int .i64 k, .bool t, .string x, .slice A nl ca, .slice B nn cb, .string p, .int .i64 0, .string ⟨#[]⟩], .agg #[.int .i64 kd, .int .i64 n, .int .i64 most, .string name, .slice T nt ct]] w (DocStep w S v p tx 0 false c s) := by
  have H := Lib.hid h
  have HV := Lib.hid hv
  clear h hv
  go_enter Tryz.func19, Tryz.ntmps19
  go_wp2_with fail
  refine (H.out _ (by (repeat (first | with_reducible refine Below.alloc ?_ (by first | (simp; done) | (simp; omega)) _)); exact Below.refl _ _)).mono ?_
  rintro e w1 ⟨rfl, hb1⟩
  unfold docBad
  obtain ⟨hc1, hf1⟩ := bcell hb1
  have hz1 : w.heap.size + 1 + 1 + 1 + 1 + 1 + 1 + 1 ≤ w1.heap.size := by have := hb1.size; simp at this; omega
  have y0 : w.heap.size < w1.heap.size := by omega
  have y1 : w.heap.size + 1 < w1.heap.size := by omega
  have y2 : w.heap.size + 1 + 1 < w1.heap.size := by omega
  have y3 : w.heap.size + 1 + 1 + 1 < w1.heap.size := by omega
  have y4 : w.heap.size + 1 + 1 + 1 + 1 < w1.heap.size := by omega
  have y5 : w.heap.size + 1 + 1 + 1 + 1 + 1 < w1.heap.size := by omega
  have y6 : w.heap.size + 1 + 1 + 1 + 1 + 1 + 1 < w1.heap.size := by omega
  have HB1 := Lib.hid (show Below w.heap.size w w1 from Below.trans (by (repeat (first | with_reducible refine Below.alloc ?_ (by first | (simp; done) | (simp; omega)) _)); exact Below.refl _ _) (hb1.mono (by simp; omega)))
  clear hb1
  go_wp2_with fail
  go_region
  all_goals
   go_wp2_with fail
   go_region
   go_wp2
   refine bodyPost_ret (v := .tuple #[docCells [.int .i64 k, .bool t, .string x, .slice A nl ca, .slice B nn cb] p 0 ⟨#[]⟩, .agg #[.string tx, .int .i64 0, .bool false, .int .i64 c, .string s]]) (by simp [results, docCells, Tryz.results19, go_sem, hc1, y2, y3]) rfl ?_
   refine DocStep.of HB1.out ?_ ?_ (HV.out.agree fun b hb hlt => ⟨HB1.out.block b hlt, hb, hlt⟩) rfl
   · (repeat (first | with_reducible refine Also.drew ?_ | with_reducible refine Also.setCell ?_ (by simp; try omega) _ | with_reducible refine Also.alloc ?_ _))
     exact Also.refl _ _
   · (repeat (first | with_reducible refine Below.drew ?_ | with_reducible refine Below.setCell ?_ (by simp only; omega) _ | with_reducible refine Below.alloc ?_ (by first | omega | (simp only [setCell_size]; omega)) _))
     exact HB1.out

set_option maxHeartbeats 1000000 in
theorem d5_any (hk : (IntKind.u64.wrap kd).tmod 9 = 5) (S : Nat → Prop) (v : V) (hv : v.Rep w S [.int .i64 k, .bool t, .string x, .slice A nl ca, .slice B nn cb]) (c : Int) (s : ByteArray) (tx : ByteArray) (h : ∀ w', Below w.heap.size w w' → Calls Tryz.prog 66 #[.agg #[.int .i64 k, .bool t, .string x, .slice A nl ca, .slice B nn cb, .string p, .int .i64 0, .string ⟨#[]⟩], .slice T nt ct] w' fun e w1 => e = .returned (.tuple #[.string tx, docBad c s]) ∧ Below w'.heap.size w' w1) :
    Calls Tryz.prog 19 #[.agg #[.int .i64 k, .bool t, .string x, .slice A nl ca, .slice B nn cb, .string p, .int .i64 0, .string ⟨#[]⟩], .agg #[.int .i64 kd, .int .i64 n, .int .i64 most, .string name, .slice T nt ct]] w (DocStep w S v p tx 0 false c s) := by
  have H := Lib.hid h
  have HV := Lib.hid hv
  clear h hv
  go_enter Tryz.func19, Tryz.ntmps19
  go_wp2_with fail
  refine (H.out _ (by (repeat (first | with_reducible refine Below.alloc ?_ (by first | (simp; done) | (simp; omega)) _)); exact Below.refl _ _)).mono ?_
  rintro e w1 ⟨rfl, hb1⟩
  unfold docBad
  obtain ⟨hc1, hf1⟩ := bcell hb1
  have hz1 : w.heap.size + 1 + 1 + 1 + 1 + 1 + 1 + 1 ≤ w1.heap.size := by have := hb1.size; simp at this; omega
  have y0 : w.heap.size < w1.heap.size := by omega
  have y1 : w.heap.size + 1 < w1.heap.size := by omega
  have y2 : w.heap.size + 1 + 1 < w1.heap.size := by omega
  have y3 : w.heap.size + 1 + 1 + 1 < w1.heap.size := by omega
  have y4 : w.heap.size + 1 + 1 + 1 + 1 < w1.heap.size := by omega
  have y5 : w.heap.size + 1 + 1 + 1 + 1 + 1 < w1.heap.size := by omega
  have y6 : w.heap.size + 1 + 1 + 1 + 1 + 1 + 1 < w1.heap.size := by omega
  have HB1 := Lib.hid (show Below w.heap.size w w1 from Below.trans (by (repeat (first | with_reducible refine Below.alloc ?_ (by first | (simp; done) | (simp; omega)) _)); exact Below.refl _ _) (hb1.mono (by simp; omega)))
  clear hb1
  go_wp2_with fail
  go_region
  all_goals
   go_wp2_with fail
   go_region
   go_wp2
   refine bodyPost_ret (v := .tuple #[docCells [.int .i64 k, .bool t, .string x, .slice A nl ca, .slice B nn cb] p 0 ⟨#[]⟩, .agg #[.string tx, .int .i64 0, .bool false, .int .i64 c, .string s]]) (by simp [results, docCells, Tryz.results19, go_sem, hc1, y2, y3]) rfl ?_
   refine DocStep.of HB1.out ?_ ?_ (HV.out.agree fun b hb hlt => ⟨HB1.out.block b hlt, hb, hlt⟩) rfl
   · (repeat (first | with_reducible refine Also.drew ?_ | with_reducible refine Also.setCell ?_ (by simp; try omega) _ | with_reducible refine Also.alloc ?_ _))
     exact Also.refl _ _
   · (repeat (first | with_reducible refine Below.drew ?_ | with_reducible refine Below.setCell ?_ (by simp only; omega) _ | with_reducible refine Below.alloc ?_ (by first | omega | (simp only [setCell_size]; omega)) _))
     exact HB1.out

set_option maxHeartbeats 1000000 in
theorem d7_any (hk : (IntKind.u64.wrap kd).tmod 9 = 7) (S : Nat → Prop) (v : V) (hv : v.Rep w S [.int .i64 k, .bool t, .string x, .slice A nl ca, .slice B nn cb]) (c : Int) (s : ByteArray) (tn : Int) (h : ∀ w', Below w.heap.size w w' → Calls Tryz.prog 67 #[.agg #[.int .i64 k, .bool t, .string x, .slice A nl ca, .slice B nn cb, .string p, .int .i64 0, .string ⟨#[]⟩], .int .i64 n, .int .i64 most] w' fun e w1 => e = .returned (.tuple #[.int .i64 tn, docBad c s]) ∧ Below w'.heap.size w' w1) :
    Calls Tryz.prog 19 #[.agg #[.int .i64 k, .bool t, .string x, .slice A nl ca, .slice B nn cb, .string p, .int .i64 0, .string ⟨#[]⟩], .agg #[.int .i64 kd, .int .i64 n, .int .i64 most, .string name, .slice T nt ct]] w (DocStep w S v p ⟨#[]⟩ tn false c s) := by
  have H := Lib.hid h
  have HV := Lib.hid hv
  clear h hv
  go_enter Tryz.func19, Tryz.ntmps19
  go_wp2_with fail
  refine (H.out _ (by (repeat (first | with_reducible refine Below.alloc ?_ (by first | (simp; done) | (simp; omega)) _)); exact Below.refl _ _)).mono ?_
  rintro e w1 ⟨rfl, hb1⟩
  unfold docBad
  obtain ⟨hc1, hf1⟩ := bcell hb1
  have hz1 : w.heap.size + 1 + 1 + 1 + 1 + 1 + 1 + 1 ≤ w1.heap.size := by have := hb1.size; simp at this; omega
  have y0 : w.heap.size < w1.heap.size := by omega
  have y1 : w.heap.size + 1 < w1.heap.size := by omega
  have y2 : w.heap.size + 1 + 1 < w1.heap.size := by omega
  have y3 : w.heap.size + 1 + 1 + 1 < w1.heap.size := by omega
  have y4 : w.heap.size + 1 + 1 + 1 + 1 < w1.heap.size := by omega
  have y5 : w.heap.size + 1 + 1 + 1 + 1 + 1 < w1.heap.size := by omega
  have y6 : w.heap.size + 1 + 1 + 1 + 1 + 1 + 1 < w1.heap.size := by omega
  have HB1 := Lib.hid (show Below w.heap.size w w1 from Below.trans (by (repeat (first | with_reducible refine Below.alloc ?_ (by first | (simp; done) | (simp; omega)) _)); exact Below.refl _ _) (hb1.mono (by simp; omega)))
  clear hb1
  go_wp2_with fail
  go_region
  all_goals
   go_wp2_with fail
   go_region
   go_wp2
   refine bodyPost_ret (v := .tuple #[docCells [.int .i64 k, .bool t, .string x, .slice A nl ca, .slice B nn cb] p 0 ⟨#[]⟩, .agg #[.string ⟨#[]⟩, .int .i64 tn, .bool false, .int .i64 c, .string s]]) (by simp [results, docCells, Tryz.results19, go_sem, hc1, y2, y3]) rfl ?_
   refine DocStep.of HB1.out ?_ ?_ (HV.out.agree fun b hb hlt => ⟨HB1.out.block b hlt, hb, hlt⟩) rfl
   · (repeat (first | with_reducible refine Also.drew ?_ | with_reducible refine Also.setCell ?_ (by simp; try omega) _ | with_reducible refine Also.alloc ?_ _))
     exact Also.refl _ _
   · (repeat (first | with_reducible refine Below.drew ?_ | with_reducible refine Below.setCell ?_ (by simp only; omega) _ | with_reducible refine Below.alloc ?_ (by first | omega | (simp only [setCell_size]; omega)) _))
     exact HB1.out

set_option maxHeartbeats 1000000 in
theorem d8_any (hk : (IntKind.u64.wrap kd).tmod 9 = 8) (S : Nat → Prop) (v : V) (hv : v.Rep w S [.int .i64 k, .bool t, .string x, .slice A nl ca, .slice B nn cb])  :
    Calls Tryz.prog 19 #[.agg #[.int .i64 k, .bool t, .string x, .slice A nl ca, .slice B nn cb, .string p, .int .i64 0, .string ⟨#[]⟩], .agg #[.int .i64 kd, .int .i64 n, .int .i64 most, .string name, .slice T nt ct]] w (DocStep w S v p ⟨#[]⟩ 0 false 15 p) := by
  have HV := Lib.hid hv
  clear hv
  go_enter Tryz.func19, Tryz.ntmps19
  go_wp2_with fail
  go_region
  all_goals
   go_wp2_with fail
   go_region
   go_wp2
   refine bodyPost_ret (v := .tuple #[docCells [.int .i64 k, .bool t, .string x, .slice A nl ca, .slice B nn cb] p 0 ⟨#[]⟩, .agg #[.string ⟨#[]⟩, .int .i64 0, .bool false, .int .i64 15, .string p]]) (by simp [results, docCells, Tryz.results19, go_sem]) rfl ?_
   refine DocStep.of (w1 := w) (Below.refl _ _) ?_ ?_ (HV.out.agree fun b hb hlt => ⟨rfl, hb, hlt⟩) rfl
   · (repeat (first | with_reducible refine Also.drew ?_ | with_reducible refine Also.setCell ?_ (by simp; try omega) _ | with_reducible refine Also.alloc ?_ _))
     exact Also.refl _ _
   · (repeat (first | with_reducible refine Below.drew ?_ | with_reducible refine Below.setCell ?_ (by simp only; omega) _ | with_reducible refine Below.alloc ?_ (by first | (simp; done) | (simp; omega)) _))
     exact Below.refl _ _

set_option maxHeartbeats 1000000 in
theorem d6_yes_true (hk : (IntKind.u64.wrap kd).tmod 9 = 6) (S : Nat → Prop) (v : V) (hv : v.Rep w S [.int .i64 k, .bool t, .string x, .slice A nl ca, .slice B nn cb]) (ht : t = true) (hk1 : k = 1) :
    Calls Tryz.prog 19 #[.agg #[.int .i64 k, .bool t, .string x, .slice A nl ca, .slice B nn cb, .string p, .int .i64 0, .string ⟨#[]⟩], .agg #[.int .i64 kd, .int .i64 n, .int .i64 most, .string name, .slice T nt ct]] w (DocStep w S v p ⟨#[]⟩ 0 true 0 ⟨#[]⟩) := by
  have HV := Lib.hid hv
  clear hv
  subst ht hk1
  go_enter Tryz.func19, Tryz.ntmps19
  go_wp2_with fail
  go_region
  all_goals
   go_wp2_with fail
   go_region
   go_wp2
   refine bodyPost_ret (v := .tuple #[docCells [.int .i64 1, .bool true, .string x, .slice A nl ca, .slice B nn cb] p 0 ⟨#[]⟩, .agg #[.string ⟨#[]⟩, .int .i64 0, .bool true, .int .i64 0, .string ⟨#[]⟩]]) (by simp [results, docCells, Tryz.results19, go_sem]) rfl ?_
   refine DocStep.of (w1 := w) (Below.refl _ _) ?_ ?_ (HV.out.agree fun b hb hlt => ⟨rfl, hb, hlt⟩) rfl
   · (repeat (first | with_reducible refine Also.drew ?_ | with_reducible refine Also.setCell ?_ (by simp; try omega) _ | with_reducible refine Also.alloc ?_ _))
     exact Also.refl _ _
   · (repeat (first | with_reducible refine Below.drew ?_ | with_reducible refine Below.setCell ?_ (by simp only; omega) _ | with_reducible refine Below.alloc ?_ (by first | (simp; done) | (simp; omega)) _))
     exact Below.refl _ _

set_option maxHeartbeats 1000000 in
theorem d6_no_true (hk : (IntKind.u64.wrap kd).tmod 9 = 6) (S : Nat → Prop) (v : V) (hv : v.Rep w S [.int .i64 k, .bool t, .string x, .slice A nl ca, .slice B nn cb]) (ht : t = true) (hk1 : (k == 1) = false) :
    Calls Tryz.prog 19 #[.agg #[.int .i64 k, .bool t, .string x, .slice A nl ca, .slice B nn cb, .string p, .int .i64 0, .string ⟨#[]⟩], .agg #[.int .i64 kd, .int .i64 n, .int .i64 most, .string name, .slice T nt ct]] w (DocStep w S v p ⟨#[]⟩ 0 false 11 p) := by
  have HV := Lib.hid hv
  clear hv
  subst ht
  have hk2 : (k != 1) = true := by simpa [bne] using hk1
  go_enter Tryz.func19, Tryz.ntmps19
  go_wp2_with fail
  go_region
  all_goals
   go_wp2_with fail
   go_region
   go_wp2
   refine bodyPost_ret (v := .tuple #[docCells [.int .i64 k, .bool true, .string x, .slice A nl ca, .slice B nn cb] p 0 ⟨#[]⟩, .agg #[.string ⟨#[]⟩, .int .i64 0, .bool false, .int .i64 11, .string p]]) (by simp [results, docCells, Tryz.results19, go_sem]) rfl ?_
   refine DocStep.of (w1 := w) (Below.refl _ _) ?_ ?_ (HV.out.agree fun b hb hlt => ⟨rfl, hb, hlt⟩) rfl
   · (repeat (first | with_reducible refine Also.drew ?_ | with_reducible refine Also.setCell ?_ (by simp; try omega) _ | with_reducible refine Also.alloc ?_ _))
     exact Also.refl _ _
   · (repeat (first | with_reducible refine Below.drew ?_ | with_reducible refine Below.setCell ?_ (by simp only; omega) _ | with_reducible refine Below.alloc ?_ (by first | (simp; done) | (simp; omega)) _))
     exact Below.refl _ _

set_option maxHeartbeats 1000000 in
theorem d6_yes_false (hk : (IntKind.u64.wrap kd).tmod 9 = 6) (S : Nat → Prop) (v : V) (hv : v.Rep w S [.int .i64 k, .bool t, .string x, .slice A nl ca, .slice B nn cb]) (ht : t = false) (hk1 : k = 1) :
    Calls Tryz.prog 19 #[.agg #[.int .i64 k, .bool t, .string x, .slice A nl ca, .slice B nn cb, .string p, .int .i64 0, .string ⟨#[]⟩], .agg #[.int .i64 kd, .int .i64 n, .int .i64 most, .string name, .slice T nt ct]] w (DocStep w S v p ⟨#[]⟩ 0 false 0 ⟨#[]⟩) := by
  have HV := Lib.hid hv
  clear hv
  subst ht hk1
  go_enter Tryz.func19, Tryz.ntmps19
  go_wp2_with fail
  go_region
  all_goals
   go_wp2_with fail
   go_region
   go_wp2
   refine bodyPost_ret (v := .tuple #[docCells [.int .i64 1, .bool false, .string x, .slice A nl ca, .slice B nn cb] p 0 ⟨#[]⟩, .agg #[.string ⟨#[]⟩, .int .i64 0, .bool false, .int .i64 0, .string ⟨#[]⟩]]) (by simp [results, docCells, Tryz.results19, go_sem]) rfl ?_
   refine DocStep.of (w1 := w) (Below.refl _ _) ?_ ?_ (HV.out.agree fun b hb hlt => ⟨rfl, hb, hlt⟩) rfl
   · (repeat (first | with_reducible refine Also.drew ?_ | with_reducible refine Also.setCell ?_ (by simp; try omega) _ | with_reducible refine Also.alloc ?_ _))
     exact Also.refl _ _
   · (repeat (first | with_reducible refine Below.drew ?_ | with_reducible refine Below.setCell ?_ (by simp only; omega) _ | with_reducible refine Below.alloc ?_ (by first | (simp; done) | (simp; omega)) _))
     exact Below.refl _ _

set_option maxHeartbeats 1000000 in
theorem d6_no_false (hk : (IntKind.u64.wrap kd).tmod 9 = 6) (S : Nat → Prop) (v : V) (hv : v.Rep w S [.int .i64 k, .bool t, .string x, .slice A nl ca, .slice B nn cb]) (ht : t = false) (hk1 : (k == 1) = false) :
    Calls Tryz.prog 19 #[.agg #[.int .i64 k, .bool t, .string x, .slice A nl ca, .slice B nn cb, .string p, .int .i64 0, .string ⟨#[]⟩], .agg #[.int .i64 kd, .int .i64 n, .int .i64 most, .string name, .slice T nt ct]] w (DocStep w S v p ⟨#[]⟩ 0 false 11 p) := by
  have HV := Lib.hid hv
  clear hv
  subst ht
  have hk2 : (k != 1) = true := by simpa [bne] using hk1
  go_enter Tryz.func19, Tryz.ntmps19
  go_wp2_with fail
  go_region
  all_goals
   go_wp2_with fail
   go_region
   go_wp2
   refine bodyPost_ret (v := .tuple #[docCells [.int .i64 k, .bool false, .string x, .slice A nl ca, .slice B nn cb] p 0 ⟨#[]⟩, .agg #[.string ⟨#[]⟩, .int .i64 0, .bool false, .int .i64 11, .string p]]) (by simp [results, docCells, Tryz.results19, go_sem]) rfl ?_
   refine DocStep.of (w1 := w) (Below.refl _ _) ?_ ?_ (HV.out.agree fun b hb hlt => ⟨rfl, hb, hlt⟩) rfl
   · (repeat (first | with_reducible refine Also.drew ?_ | with_reducible refine Also.setCell ?_ (by simp; try omega) _ | with_reducible refine Also.alloc ?_ _))
     exact Also.refl _ _
   · (repeat (first | with_reducible refine Below.drew ?_ | with_reducible refine Below.setCell ?_ (by simp only; omega) _ | with_reducible refine Below.alloc ?_ (by first | (simp; done) | (simp; omega)) _))
     exact Below.refl _ _

end

end Go.Proofs.YtoimjnmhinfbkaaGreatDoor
