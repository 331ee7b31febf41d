import Derived.Test.YtoimjnmhinfbkaaGreatDoorMh
import Derived.Test.YtoimjnmhinfbkaaGreatDoorVu
namespace Go.Proofs.YtoimjnmhinfbkaaGreatDoor
open Go.RowKit
set_option maxRecDepth 100000

/-- an act of a look went through: the boxes of the look then (bn) and of what came of it (bt) have turned, nothing else that was there. -/
def StepOK (B0 : Nat) (w : World) (S : Nat → Prop) (bn bt : Nat) (v : V) (p tx : ByteArray) (tn : Int) (ti : Bool) (e : Ending) (w' : World) : Prop :=
  e = .returned (.tuple #[]) ∧ Below B0 w w' ∧ Also (fun b => b ≠ bn ∧ b ≠ bt) w w' ∧ w'.heap[bt]? = some (.cells #[.string tx, .int .i64 tn, .bool ti, .int .i64 0, .string ⟨#[]⟩] 50 (0, 0)) ∧
    ∃ cs, w'.heap[bn]? = some (.cells (cs ++ [.string p]).toArray 32 (0, 0)) ∧ v.Rep w' (fun b => (S b ∧ b < B0) ∨ (w.heap.size ≤ b ∧ b < w'.heap.size)) cs

/-- the boxes that an act of a look works on. -/
structure Boxes (w : World) (bl ba bn bt : Nat) (lc : List Value) (ac : List Value) : Prop where
  l : w.heap[bl]? = some (.cells lc.toArray 32 (0, 0))
  a : w.heap[ba]? = some (.cells ac.toArray 48 (0, 0))
  n : w.heap[bn]? = some (.cells lc.toArray 32 (0, 0))
  t : w.heap[bt]? = some (.cells #[.string ⟨#[]⟩, .int .i64 0, .bool false, .int .i64 0, .string ⟨#[]⟩] 50 (0, 0))
  o1 : bl < ba
  o2 : ba < bt
  o3 : bt < bn

theorem Boxes.lt {w : World} {bl ba bn bt : Nat} {lc ac : List Value} (h : Boxes w bl ba bn bt lc ac) : bn < w.heap.size := (Array.getElem?_eq_some_iff.1 h.n).1

theorem StepOK.mk' {B0 : Nat} {w w1 W' : World} {S : Nat → Prop} {bn bt : Nat} {v : V} {p tx : ByteArray} {tn : Int} {ti : Bool} {cs : List Value} (hB : B0 ≤ bt) (h3 : bt < bn) (hbn : bn < w.heap.size) (hb1 : Below w.heap.size w w1)
    (hal : Also (fun b => b ≠ bn ∧ b ≠ bt) w1 W') (hbel : Below B0 w1 W') (ht : W'.heap[bt]? = some (.cells #[.string tx, .int .i64 tn, .bool ti, .int .i64 0, .string ⟨#[]⟩] 50 (0, 0)))
    (hn : W'.heap[bn]? = some (.cells (cs ++ [Value.string p]).toArray 32 (0, 0))) (hrep : v.Rep w1 (fun b => (S b ∧ b < B0) ∨ (w.heap.size ≤ b ∧ b < w1.heap.size)) cs) :
    StepOK B0 w S bn bt v p tx tn ti (.returned (.tuple #[])) W' := by
  refine ⟨rfl, (hb1.mono (by omega)).trans hbel, ((Also.refl _ _).below hb1 (Nat.le_refl _)).trans hal, ht, cs, hn, ?_⟩
  have hs := hal.size
  refine hrep.also hal fun b hb hlt => ?_
  rcases hb with ⟨h1, h2⟩ | ⟨h1, h2⟩
  · exact ⟨by omega, .inl ⟨h1, h2⟩⟩
  · exact ⟨by omega, .inr ⟨h1, by omega⟩⟩

section
variable (k : Int) (t : Bool) (x : ByteArray) (A : Option Addr) (nl ca : Nat) (B : Option Addr) (nn cb : Nat) (p : ByteArray) (kd n most : Int) (name : ByteArray) (T : Option Addr) (nt ct : Nat) (bl ba bn bt : Nat) (w : World)

theorem step0_threw (hb : Boxes w bl ba bn bt [.int .i64 k, .bool t, .string x, .slice A nl ca, .slice B nn cb, .string p] [.int .i64 kd, .int .i64 n, .int .i64 most, .string name, .slice T nt ct]) (hk : (IntKind.u64.wrap kd).tmod 9 = 0) (c : Int) (s : ByteArray) (h : Calls Tryz.prog 47 #[.agg #[.int .i64 k, .bool t, .string x, .slice A nl ca, .slice B nn cb, .string p], .string name] w (Threw w c s)) :
    Calls Tryz.prog 56 #[.pointer (some ⟨ba, 0, none⟩), .pointer (some ⟨bl, 0, none⟩), .pointer (some ⟨bn, 0, none⟩), .pointer (some ⟨bt, 0, none⟩)] w (Threw w c s) := by
  have ll := fun o => cell_of_row w bl o _ 32 (0, 0) hb.l
  have aa := fun o => cell_of_row w ba o _ 48 (0, 0) hb.a
  have l0 := ll 0
  have l1 := ll 1
  have l2 := ll 2
  have l3 := ll 3
  have l4 := ll 4
  have l5 := ll 5
  have a0 := aa 0
  have a1 := aa 1
  have a2 := aa 2
  have a3 := aa 3
  have a4 := aa 4
  simp at l0 l1 l2 l3 l4 l5 a0 a1 a2 a3 a4
  have HB := Lib.hid hb
  have H := Lib.hid h
  clear ll aa hb h
  go_enter Tryz.func56, Tryz.ntmps56
  go_wp2_with fail
  refine H.out.mono ?_
  rintro e w' ⟨g, rfl, hh⟩
  go_wp2
  exact ⟨rfl, g, rfl, hh⟩

theorem step1_threw (hb : Boxes w bl ba bn bt [.int .i64 k, .bool t, .string x, .slice A nl ca, .slice B nn cb, .string p] [.int .i64 kd, .int .i64 n, .int .i64 most, .string name, .slice T nt ct]) (hk : (IntKind.u64.wrap kd).tmod 9 = 1) (c : Int) (s : ByteArray) (h : Calls Tryz.prog 57 #[.agg #[.int .i64 k, .bool t, .string x, .slice A nl ca, .slice B nn cb, .string p], .string name] w (Threw w c s)) :
    Calls Tryz.prog 56 #[.pointer (some ⟨ba, 0, none⟩), .pointer (some ⟨bl, 0, none⟩), .pointer (some ⟨bn, 0, none⟩), .pointer (some ⟨bt, 0, none⟩)] w (Threw w c s) := by
  have ll := fun o => cell_of_row w bl o _ 32 (0, 0) hb.l
  have aa := fun o => cell_of_row w ba o _ 48 (0, 0) hb.a
  have l0 := ll 0
  have l1 := ll 1
  have l2 := ll 2
  have l3 := ll 3
  have l4 := ll 4
  have l5 := ll 5
  have a0 := aa 0
  have a1 := aa 1
  have a2 := aa 2
  have a3 := aa 3
  have a4 := aa 4
  simp at l0 l1 l2 l3 l4 l5 a0 a1 a2 a3 a4
  have HB := Lib.hid hb
  have H := Lib.hid h
  clear ll aa hb h
  go_enter Tryz.func56, Tryz.ntmps56
  go_wp2_with fail
  refine H.out.mono ?_
  rintro e w' ⟨g, rfl, hh⟩
  go_wp2
  exact ⟨rfl, g, rfl, hh⟩

theorem step2_threw (hb : Boxes w bl ba bn bt [.int .i64 k, .bool t, .string x, .slice A nl ca, .slice B nn cb, .string p] [.int .i64 kd, .int .i64 n, .int .i64 most, .string name, .slice T nt ct]) (hk : (IntKind.u64.wrap kd).tmod 9 = 2) (c : Int) (s : ByteArray) (h : Calls Tryz.prog 48 #[.agg #[.int .i64 k, .bool t, .string x, .slice A nl ca, .slice B nn cb, .string p], .int .i64 most] w (Threw w c s)) :
    Calls Tryz.prog 56 #[.pointer (some ⟨ba, 0, none⟩), .pointer (some ⟨bl, 0, none⟩), .pointer (some ⟨bn, 0, none⟩), .pointer (some ⟨bt, 0, none⟩)] w (Threw w c s) := by
  have ll := fun o => cell_of_row w bl o _ 32 (0, 0) hb.l
  have aa := fun o => cell_of_row w ba o _ 48 (0, 0) hb.a
  have l0 := ll 0
  have l1 := ll 1
  have l2 := ll 2
  have l3 := ll 3
  have l4 := ll 4
  have l5 := ll 5
  have a0 := aa 0
  have a1 := aa 1
  have a2 := aa 2
  have a3 := aa 3
  have a4 := aa 4
  simp at l0 l1 l2 l3 l4 l5 a0 a1 a2 a3 a4
  have HB := Lib.hid hb
  have H := Lib.hid h
  clear ll aa hb h
  go_enter Tryz.func56, Tryz.ntmps56
  go_wp2_with fail
  refine H.out.mono ?_
  rintro e w' ⟨g, rfl, hh⟩
  go_wp2
  exact ⟨rfl, g, rfl, hh⟩

theorem step3_threw (hb : Boxes w bl ba bn bt [.int .i64 k, .bool t, .string x, .slice A nl ca, .slice B nn cb, .string p] [.int .i64 kd, .int .i64 n, .int .i64 most, .string name, .slice T nt ct]) (hk : (IntKind.u64.wrap kd).tmod 9 = 3) (c : Int) (s : ByteArray) (h : Calls Tryz.prog 58 #[.agg #[.int .i64 k, .bool t, .string x, .slice A nl ca, .slice B nn cb, .string p]] w (Threw w c s)) :
    Calls Tryz.prog 56 #[.pointer (some ⟨ba, 0, none⟩), .pointer (some ⟨bl, 0, none⟩), .pointer (some ⟨bn, 0, none⟩), .pointer (some ⟨bt, 0, none⟩)] w (Threw w c s) := by
  have ll := fun o => cell_of_row w bl o _ 32 (0, 0) hb.l
  have aa := fun o => cell_of_row w ba o _ 48 (0, 0) hb.a
  have l0 := ll 0
  have l1 := ll 1
  have l2 := ll 2
  have l3 := ll 3
  have l4 := ll 4
  have l5 := ll 5
  have a0 := aa 0
  have a1 := aa 1
  have a2 := aa 2
  have a3 := aa 3
  have a4 := aa 4
  simp at l0 l1 l2 l3 l4 l5 a0 a1 a2 a3 a4
  have HB := Lib.hid hb
  have H := Lib.hid h
  clear ll aa hb h
  go_enter Tryz.func56, Tryz.ntmps56
  go_wp2_with fail
  refine H.out.mono ?_
  rintro e w' ⟨g, rfl, hh⟩
  go_wp2
  exact ⟨rfl, g, rfl, hh⟩

theorem step4_threw (hb : Boxes w bl ba bn bt [.int .i64 k, .bool t, .string x, .slice A nl ca, .slice B nn cb, .string p] [.int .i64 kd, .int .i64 n, .int .i64 most, .string name, .slice T nt ct]) (hk : (IntKind.u64.wrap kd).tmod 9 = 4) (c : Int) (s : ByteArray) (h : Calls Tryz.prog 59 #[.agg #[.int .i64 k, .bool t, .string x, .slice A nl ca, .slice B nn cb, .string p], .int .i64 most] w (Threw w c s)) :
    Calls Tryz.prog 56 #[.pointer (some ⟨ba, 0, none⟩), .pointer (some ⟨bl, 0, none⟩), .pointer (some ⟨bn, 0, none⟩), .pointer (some ⟨bt, 0, none⟩)] w (Threw w c s) := by
  have ll := fun o => cell_of_row w bl o _ 32 (0, 0) hb.l
  have aa := fun o => cell_of_row w ba o _ 48 (0, 0) hb.a
  have l0 := ll 0
  have l1 := ll 1
  have l2 := ll 2
  have l3 := ll 3
  have l4 := ll 4
  have l5 := ll 5
  have a0 := aa 0
  have a1 := aa 1
  have a2 := aa 2
  have a3 := aa 3
  have a4 := aa 4
  simp at l0 l1 l2 l3 l4 l5 a0 a1 a2 a3 a4
  have HB := Lib.hid hb
  have H := Lib.hid h
  clear ll aa hb h
  go_enter Tryz.func56, Tryz.ntmps56
  go_wp2_with fail
  refine H.out.mono ?_
  rintro e w' ⟨g, rfl, hh⟩
  go_wp2
  exact ⟨rfl, g, rfl, hh⟩

theorem step5_threw (hb : Boxes w bl ba bn bt [.int .i64 k, .bool t, .string x, .slice A nl ca, .slice B nn cb, .string p] [.int .i64 kd, .int .i64 n, .int .i64 most, .string name, .slice T nt ct]) (hk : (IntKind.u64.wrap kd).tmod 9 = 5) (c : Int) (s : ByteArray) (h : Calls Tryz.prog 60 #[.agg #[.int .i64 k, .bool t, .string x, .slice A nl ca, .slice B nn cb, .string p], .slice T nt ct] w (Threw w c s)) :
    Calls Tryz.prog 56 #[.pointer (some ⟨ba, 0, none⟩), .pointer (some ⟨bl, 0, none⟩), .pointer (some ⟨bn, 0, none⟩), .pointer (some ⟨bt, 0, none⟩)] w (Threw w c s) := by
  have ll := fun o => cell_of_row w bl o _ 32 (0, 0) hb.l
  have aa := fun o => cell_of_row w ba o _ 48 (0, 0) hb.a
  have l0 := ll 0
  have l1 := ll 1
  have l2 := ll 2
  have l3 := ll 3
  have l4 := ll 4
  have l5 := ll 5
  have a0 := aa 0
  have a1 := aa 1
  have a2 := aa 2
  have a3 := aa 3
  have a4 := aa 4
  simp at l0 l1 l2 l3 l4 l5 a0 a1 a2 a3 a4
  have HB := Lib.hid hb
  have H := Lib.hid h
  clear ll aa hb h
  go_enter Tryz.func56, Tryz.ntmps56
  go_wp2_with fail
  refine H.out.mono ?_
  rintro e w' ⟨g, rfl, hh⟩
  go_wp2
  exact ⟨rfl, g, rfl, hh⟩

theorem step6_threw (hb : Boxes w bl ba bn bt [.int .i64 k, .bool t, .string x, .slice A nl ca, .slice B nn cb, .string p] [.int .i64 kd, .int .i64 n, .int .i64 most, .string name, .slice T nt ct]) (hk : (IntKind.u64.wrap kd).tmod 9 = 6) (c : Int) (s : ByteArray) (h : Calls Tryz.prog 61 #[.agg #[.int .i64 k, .bool t, .string x, .slice A nl ca, .slice B nn cb, .string p]] w (Threw w c s)) :
    Calls Tryz.prog 56 #[.pointer (some ⟨ba, 0, none⟩), .pointer (some ⟨bl, 0, none⟩), .pointer (some ⟨bn, 0, none⟩), .pointer (some ⟨bt, 0, none⟩)] w (Threw w c s) := by
  have ll := fun o => cell_of_row w bl o _ 32 (0, 0) hb.l
  have aa := fun o => cell_of_row w ba o _ 48 (0, 0) hb.a
  have l0 := ll 0
  have l1 := ll 1
  have l2 := ll 2
  have l3 := ll 3
  have l4 := ll 4
  have l5 := ll 5
  have a0 := aa 0
  have a1 := aa 1
  have a2 := aa 2
  have a3 := aa 3
  have a4 := aa 4
  simp at l0 l1 l2 l3 l4 l5 a0 a1 a2 a3 a4
  have HB := Lib.hid hb
  have H := Lib.hid h
  clear ll aa hb h
  go_enter Tryz.func56, Tryz.ntmps56
  go_wp2_with fail
  refine H.out.mono ?_
  rintro e w' ⟨g, rfl, hh⟩
  go_wp2
  exact ⟨rfl, g, rfl, hh⟩

theorem step7_threw (hb : Boxes w bl ba bn bt [.int .i64 k, .bool t, .string x, .slice A nl ca, .slice B nn cb, .string p] [.int .i64 kd, .int .i64 n, .int .i64 most, .string name, .slice T nt ct]) (hk : (IntKind.u64.wrap kd).tmod 9 = 7) (c : Int) (s : ByteArray) (h : Calls Tryz.prog 13 #[.agg #[.int .i64 k, .bool t, .string x, .slice A nl ca, .slice B nn cb, .string p], .int .i64 n, .int .i64 most] w (Threw w c s)) :
    Calls Tryz.prog 56 #[.pointer (some ⟨ba, 0, none⟩), .pointer (some ⟨bl, 0, none⟩), .pointer (some ⟨bn, 0, none⟩), .pointer (some ⟨bt, 0, none⟩)] w (Threw w c s) := by
  have ll := fun o => cell_of_row w bl o _ 32 (0, 0) hb.l
  have aa := fun o => cell_of_row w ba o _ 48 (0, 0) hb.a
  have l0 := ll 0
  have l1 := ll 1
  have l2 := ll 2
  have l3 := ll 3
  have l4 := ll 4
  have l5 := ll 5
  have a0 := aa 0
  have a1 := aa 1
  have a2 := aa 2
  have a3 := aa 3
  have a4 := aa 4
  simp at l0 l1 l2 l3 l4 l5 a0 a1 a2 a3 a4
  have HB := Lib.hid hb
  have H := Lib.hid h
  clear ll aa hb h
  go_enter Tryz.func56, Tryz.ntmps56
  go_wp2_with fail
  refine H.out.mono ?_
  rintro e w' ⟨g, rfl, hh⟩
  go_wp2
  exact ⟨rfl, g, rfl, hh⟩

theorem step8_threw (hb : Boxes w bl ba bn bt [.int .i64 k, .bool t, .string x, .slice A nl ca, .slice B nn cb, .string p] [.int .i64 kd, .int .i64 n, .int .i64 most, .string name, .slice T nt ct]) (hk : (IntKind.u64.wrap kd).tmod 9 = 8) (c : Int) (s : ByteArray) (h : Calls Tryz.prog 53 #[.agg #[.int .i64 k, .bool t, .string x, .slice A nl ca, .slice B nn cb, .string p], .int .i64 15] w (Threw w c s)) :
    Calls Tryz.prog 56 #[.pointer (some ⟨ba, 0, none⟩), .pointer (some ⟨bl, 0, none⟩), .pointer (some ⟨bn, 0, none⟩), .pointer (some ⟨bt, 0, none⟩)] w (Threw w c s) := by
  have ll := fun o => cell_of_row w bl o _ 32 (0, 0) hb.l
  have aa := fun o => cell_of_row w ba o _ 48 (0, 0) hb.a
  have l0 := ll 0
  have l1 := ll 1
  have l2 := ll 2
  have l3 := ll 3
  have l4 := ll 4
  have l5 := ll 5
  have a0 := aa 0
  have a1 := aa 1
  have a2 := aa 2
  have a3 := aa 3
  have a4 := aa 4
  simp at l0 l1 l2 l3 l4 l5 a0 a1 a2 a3 a4
  have HB := Lib.hid hb
  have H := Lib.hid h
  clear ll aa hb h
  go_enter Tryz.func56, Tryz.ntmps56
  go_wp2_with fail
  refine H.out.mono ?_
  rintro e w' ⟨g, rfl, hh⟩
  go_wp2
  exact ⟨rfl, g, rfl, hh⟩

set_option maxHeartbeats 1000000 in
theorem step0_ok (hb : Boxes w bl ba bn bt [.int .i64 k, .bool t, .string x, .slice A nl ca, .slice B nn cb, .string p] [.int .i64 kd, .int .i64 n, .int .i64 most, .string name, .slice T nt ct]) (hk : (IntKind.u64.wrap kd).tmod 9 = 0) (B0 : Nat) (S : Nat → Prop) (hB0 : B0 ≤ bl) (v' : V) (p' : ByteArray) (h : Calls Tryz.prog 47 #[.agg #[.int .i64 k, .bool t, .string x, .slice A nl ca, .slice B nn cb, .string p], .string name] w fun e w1 => ∃ cs, e = .returned (.agg (cs ++ [.string p']).toArray) ∧ v'.Rep w1 (fun b => (S b ∧ b < B0) ∨ (w.heap.size ≤ b ∧ b < w1.heap.size)) cs ∧ Below w.heap.size w w1) :
    Calls Tryz.prog 56 #[.pointer (some ⟨ba, 0, none⟩), .pointer (some ⟨bl, 0, none⟩), .pointer (some ⟨bn, 0, none⟩), .pointer (some ⟨bt, 0, none⟩)] w (StepOK B0 w S bn bt v' p' ⟨#[]⟩ 0 false) := by
  have ll := fun o => cell_of_row w bl o _ 32 (0, 0) hb.l
  have aa := fun o => cell_of_row w ba o _ 48 (0, 0) hb.a
  have l0 := ll 0
  have l1 := ll 1
  have l2 := ll 2
  have l3 := ll 3
  have l4 := ll 4
  have l5 := ll 5
  have a0 := aa 0
  have a1 := aa 1
  have a2 := aa 2
  have a3 := aa 3
  have a4 := aa 4
  simp at l0 l1 l2 l3 l4 l5 a0 a1 a2 a3 a4
  have HB := Lib.hid hb
  have H := Lib.hid h
  clear ll aa hb h
  go_enter Tryz.func56, Tryz.ntmps56
  go_wp2_with fail
  refine H.out.mono ?_
  rintro e w1 ⟨cs1, rfl, hrep, hb1⟩
  have hlt := HB.out.lt
  have o1 := HB.out.o1
  have o2 := HB.out.o2
  have o3 := HB.out.o3
  have hn1 : w1.heap[bn]? = _ := (hb1.block _ hlt).trans HB.out.n
  have ht1 : w1.heap[bt]? = _ := (hb1.block _ (by omega)).trans HB.out.t
  have nn' := fun o => cell_of_row w bn o _ 32 (0, 0) HB.out.n
  have tt' := fun o => cell_of_row w bt o _ 50 (0, 0) HB.out.t
  have nf : ∀ o, w.frozen? ⟨bn, o, none⟩ = false := fun o => by simp [World.frozen?, HB.out.n]
  have tf : ∀ o, w.frozen? ⟨bt, o, none⟩ = false := fun o => by simp [World.frozen?, HB.out.t]
  obtain ⟨hcb, hfb⟩ := bcell hb1
  have hltl : bl < w.heap.size := by omega
  have hlta : ba < w.heap.size := by omega
  have hltt : bt < w.heap.size := by omega
  have hne1 : ¬ bn = bt := by omega
  have hne2 : ¬ bt = bn := by omega
  have HREP := Lib.hid hrep
  obtain ⟨A1, ca1, B1, cb1, rfl, -⟩ := hrep.open
  have n0 := nn' 0
  have n1 := nn' 1
  have n2 := nn' 2
  have n3 := nn' 3
  have n4 := nn' 4
  have n5 := nn' 5
  simp at n0 n1 n2 n3 n4 n5
  clear hrep
  have hs1 := hb1.size
  have hltn1 : bn < w1.heap.size := by omega
  have hltt1 : bt < w1.heap.size := by omega
  have HB1 := Lib.hid hb1
  have HN1 := Lib.hid hn1
  have HT1 := Lib.hid ht1
  clear nn' tt' hn1 ht1 hb1
  go_wp2
  all_goals
   go_end0
   refine StepOK.mk' (w1 := w1) (cs := [.int .i64 v'.kind, .bool v'.tr, .string v'.text, .slice A1 v'.list.length ca1, .slice B1 v'.names.length cb1]) (by omega) o3 hlt HB1.out (by (repeat (first | with_reducible refine Also.drew ?_ | with_reducible refine Also.setCell ?_ (by simp) _ | with_reducible refine Also.alloc ?_ _)); exact Also.refl _ _) (by (repeat (first | with_reducible refine Below.drew ?_ | with_reducible refine Below.setCell ?_ (by simp only; omega) _ | with_reducible refine Below.alloc ?_ (by first | omega | (simp only [setCell_size]; omega)) _)); exact Below.refl _ _) ?_ ?_ HREP.out
   · refine Eq.trans (Also.block (P := fun b => b ≠ bn) (w := w1) ?_ bt (by omega) (by omega)) HT1.out
     (repeat (first | with_reducible refine Also.drew ?_ | with_reducible refine Also.setCell ?_ (by simp) _ | with_reducible refine Also.alloc ?_ _))
     exact Also.refl _ _
   · exact blk_set (blk_set (blk_set (blk_set (blk_set (blk_set HN1.out 0 _) 1 _) 2 _) 3 _) 4 _) 5 _

set_option maxHeartbeats 1000000 in
theorem step1_none (hb : Boxes w bl ba bn bt [.int .i64 k, .bool t, .string x, .slice A nl ca, .slice B nn cb, .string p] [.int .i64 kd, .int .i64 n, .int .i64 most, .string name, .slice T nt ct]) (hk : (IntKind.u64.wrap kd).tmod 9 = 1) (B0 : Nat) (S : Nat → Prop) (hB0 : B0 ≤ bl) (v : V) (hv : v.Rep w S [.int .i64 k, .bool t, .string x, .slice A nl ca, .slice B nn cb]) (hS : ∀ b, S b → b < B0) (h : Calls Tryz.prog 57 #[.agg #[.int .i64 k, .bool t, .string x, .slice A nl ca, .slice B nn cb, .string p], .string name] w fun e w1 => e = .returned (.tuple #[.agg #[.int .i64 0, .bool false, .string ⟨#[]⟩, .slice none 0 0, .slice none 0 0, .string ⟨#[]⟩], .bool false]) ∧ Below w.heap.size w w1) :
    Calls Tryz.prog 56 #[.pointer (some ⟨ba, 0, none⟩), .pointer (some ⟨bl, 0, none⟩), .pointer (some ⟨bn, 0, none⟩), .pointer (some ⟨bt, 0, none⟩)] w (StepOK B0 w S bn bt v p ⟨#[]⟩ 0 false) := by
  have ll := fun o => cell_of_row w bl o _ 32 (0, 0) hb.l
  have aa := fun o => cell_of_row w ba o _ 48 (0, 0) hb.a
  have l0 := ll 0
  have l1 := ll 1
  have l2 := ll 2
  have l3 := ll 3
  have l4 := ll 4
  have l5 := ll 5
  have a0 := aa 0
  have a1 := aa 1
  have a2 := aa 2
  have a3 := aa 3
  have a4 := aa 4
  simp at l0 l1 l2 l3 l4 l5 a0 a1 a2 a3 a4
  have HB := Lib.hid hb
  have H := Lib.hid h
  clear ll aa hb h
  go_enter Tryz.func56, Tryz.ntmps56
  go_wp2_with fail
  refine H.out.mono ?_
  rintro e w1 ⟨rfl, hb1⟩
  have hlt := HB.out.lt
  have o1 := HB.out.o1
  have o2 := HB.out.o2
  have o3 := HB.out.o3
  have hn1 : w1.heap[bn]? = _ := (hb1.block _ hlt).trans HB.out.n
  have ht1 : w1.heap[bt]? = _ := (hb1.block _ (by omega)).trans HB.out.t
  have nn' := fun o => cell_of_row w bn o _ 32 (0, 0) HB.out.n
  have tt' := fun o => cell_of_row w bt o _ 50 (0, 0) HB.out.t
  have nf : ∀ o, w.frozen? ⟨bn, o, none⟩ = false := fun o => by simp [World.frozen?, HB.out.n]
  have tf : ∀ o, w.frozen? ⟨bt, o, none⟩ = false := fun o => by simp [World.frozen?, HB.out.t]
  obtain ⟨hcb, hfb⟩ := bcell hb1
  have hltl : bl < w.heap.size := by omega
  have hlta : ba < w.heap.size := by omega
  have hltt : bt < w.heap.size := by omega
  have hne1 : ¬ bn = bt := by omega
  have hne2 : ¬ bt = bn := by omega
  have HV := Lib.hid hv
  have HS := Lib.hid hS
  clear hv hS
  have hs1 := hb1.size
  have hltn1 : bn < w1.heap.size := by omega
  have hltt1 : bt < w1.heap.size := by omega
  have HB1 := Lib.hid hb1
  have HN1 := Lib.hid hn1
  have HT1 := Lib.hid ht1
  clear nn' tt' hn1 ht1 hb1
  go_wp2
  all_goals
   go_end0
   refine StepOK.mk' (w1 := w1) (cs := [.int .i64 k, .bool t, .string x, .slice A nl ca, .slice B nn cb]) (by omega) o3 hlt HB1.out (by (repeat (first | with_reducible refine Also.drew ?_ | with_reducible refine Also.setCell ?_ (by simp) _ | with_reducible refine Also.alloc ?_ _)); exact Also.refl _ _) (by (repeat (first | with_reducible refine Below.drew ?_ | with_reducible refine Below.setCell ?_ (by simp only; omega) _ | with_reducible refine Below.alloc ?_ (by first | omega | (simp only [setCell_size]; omega)) _)); exact Below.refl _ _) ?_ ?_ (HV.out.agree fun b hb hlt => ⟨HB1.out.block b hlt, .inl ⟨hb, HS.out b hb⟩⟩)
   · refine Eq.trans (Also.block (P := fun b => b ≠ bn) (w := w1) ?_ bt (by omega) (by omega)) HT1.out
     (repeat (first | with_reducible refine Also.drew ?_ | with_reducible refine Also.setCell ?_ (by simp) _ | with_reducible refine Also.alloc ?_ _))
     exact Also.refl _ _
   · refine Eq.trans (Also.block (P := fun b => b ≠ bt) (w := w1) ?_ bn (by omega) (by omega)) HN1.out
     (repeat (first | with_reducible refine Also.drew ?_ | with_reducible refine Also.setCell ?_ (by simp) _ | with_reducible refine Also.alloc ?_ _))
     exact Also.refl _ _

set_option maxHeartbeats 1000000 in
theorem step1_some (hb : Boxes w bl ba bn bt [.int .i64 k, .bool t, .string x, .slice A nl ca, .slice B nn cb, .string p] [.int .i64 kd, .int .i64 n, .int .i64 most, .string name, .slice T nt ct]) (hk : (IntKind.u64.wrap kd).tmod 9 = 1) (B0 : Nat) (S : Nat → Prop) (hB0 : B0 ≤ bl) (v' : V) (p' : ByteArray) (h : Calls Tryz.prog 57 #[.agg #[.int .i64 k, .bool t, .string x, .slice A nl ca, .slice B nn cb, .string p], .string name] w fun e w1 => ∃ cs, e = .returned (.tuple #[.agg (cs ++ [.string p']).toArray, .bool true]) ∧ v'.Rep w1 (fun b => (S b ∧ b < B0) ∨ (w.heap.size ≤ b ∧ b < w1.heap.size)) cs ∧ Below w.heap.size w w1) :
    Calls Tryz.prog 56 #[.pointer (some ⟨ba, 0, none⟩), .pointer (some ⟨bl, 0, none⟩), .pointer (some ⟨bn, 0, none⟩), .pointer (some ⟨bt, 0, none⟩)] w (StepOK B0 w S bn bt v' p' ⟨#[]⟩ 0 true) := by
  have ll := fun o => cell_of_row w bl o _ 32 (0, 0) hb.l
  have aa := fun o => cell_of_row w ba o _ 48 (0, 0) hb.a
  have l0 := ll 0
  have l1 := ll 1
  have l2 := ll 2
  have l3 := ll 3
  have l4 := ll 4
  have l5 := ll 5
  have a0 := aa 0
  have a1 := aa 1
  have a2 := aa 2
  have a3 := aa 3
  have a4 := aa 4
  simp at l0 l1 l2 l3 l4 l5 a0 a1 a2 a3 a4
  have HB := Lib.hid hb
  have H := Lib.hid h
  clear ll aa hb h
  go_enter Tryz.func56, Tryz.ntmps56
  go_wp2_with fail
  refine H.out.mono ?_
  rintro e w1 ⟨cs1, rfl, hrep, hb1⟩
  have hlt := HB.out.lt
  have o1 := HB.out.o1
  have o2 := HB.out.o2
  have o3 := HB.out.o3
  have hn1 : w1.heap[bn]? = _ := (hb1.block _ hlt).trans HB.out.n
  have ht1 : w1.heap[bt]? = _ := (hb1.block _ (by omega)).trans HB.out.t
  have nn' := fun o => cell_of_row w bn o _ 32 (0, 0) HB.out.n
  have tt' := fun o => cell_of_row w bt o _ 50 (0, 0) HB.out.t
  have nf : ∀ o, w.frozen? ⟨bn, o, none⟩ = false := fun o => by simp [World.frozen?, HB.out.n]
  have tf : ∀ o, w.frozen? ⟨bt, o, none⟩ = false := fun o => by simp [World.frozen?, HB.out.t]
  obtain ⟨hcb, hfb⟩ := bcell hb1
  have hltl : bl < w.heap.size := by omega
  have hlta : ba < w.heap.size := by omega
  have hltt : bt < w.heap.size := by omega
  have hne1 : ¬ bn = bt := by omega
  have hne2 : ¬ bt = bn := by omega
  have HREP := Lib.hid hrep
  obtain ⟨A1, ca1, B1, cb1, rfl, -⟩ := hrep.open
  have n0 := nn' 0
  have n1 := nn' 1
  have n2 := nn' 2
  have n3 := nn' 3
  have n4 := nn' 4
  have n5 := nn' 5
  simp at n0 n1 n2 n3 n4 n5
  have t2 := tt' 2
  simp at t2
  clear hrep
  have hs1 := hb1.size
  have hltn1 : bn < w1.heap.size := by omega
  have hltt1 : bt < w1.heap.size := by omega
  have HB1 := Lib.hid hb1
  have HN1 := Lib.hid hn1
  have HT1 := Lib.hid ht1
  clear nn' tt' hn1 ht1 hb1
  go_wp2
  all_goals
   go_end0
   refine StepOK.mk' (w1 := w1) (cs := [.int .i64 v'.kind, .bool v'.tr, .string v'.text, .slice A1 v'.list.length ca1, .slice B1 v'.names.length cb1]) (by omega) o3 hlt HB1.out (by (repeat (first | with_reducible refine Also.drew ?_ | with_reducible refine Also.setCell ?_ (by simp) _ | with_reducible refine Also.alloc ?_ _)); exact Also.refl _ _) (by (repeat (first | with_reducible refine Below.drew ?_ | with_reducible refine Below.setCell ?_ (by simp only; omega) _ | with_reducible refine Below.alloc ?_ (by first | omega | (simp only [setCell_size]; omega)) _)); exact Below.refl _ _) ?_ ?_ HREP.out
   · refine (Below.heap_alloc _ _ _ (by simp only [setCell_size]; omega)).trans ?_
     refine Eq.trans (blk_set (show _ = some ((.cells #[.string ⟨#[]⟩, .int .i64 0, .bool false, .int .i64 0, .string ⟨#[]⟩] 50 (0, 0)) : Obj) from ?_) 2 _) rfl
     refine (Below.heap_setCell _ _ _ _ (by simp only; omega)).trans ?_
     refine (Below.heap_setCell _ _ _ _ (by simp only; omega)).trans ?_
     refine (Below.heap_setCell _ _ _ _ (by simp only; omega)).trans ?_
     refine (Below.heap_setCell _ _ _ _ (by simp only; omega)).trans ?_
     refine (Below.heap_setCell _ _ _ _ (by simp only; omega)).trans ?_
     refine (Below.heap_setCell _ _ _ _ (by simp only; omega)).trans ?_
     exact HT1.out
   · refine (Below.heap_alloc _ _ _ (by simp only [setCell_size]; omega)).trans ?_
     refine (Below.heap_setCell _ _ _ _ (by simp only; omega)).trans ?_
     exact blk_set (blk_set (blk_set (blk_set (blk_set (blk_set HN1.out 0 _) 1 _) 2 _) 3 _) 4 _) 5 _

set_option maxHeartbeats 1000000 in
theorem step2_empty (hb : Boxes w bl ba bn bt [.int .i64 k, .bool t, .string x, .slice A nl ca, .slice B nn cb, .string p] [.int .i64 kd, .int .i64 n, .int .i64 most, .string name, .slice T nt ct]) (hk : (IntKind.u64.wrap kd).tmod 9 = 2) (B0 : Nat) (S : Nat → Prop) (hB0 : B0 ≤ bl) (v : V) (hv : v.Rep w S [.int .i64 k, .bool t, .string x, .slice A nl ca, .slice B nn cb]) (hS : ∀ b, S b → b < B0) (h : Calls Tryz.prog 48 #[.agg #[.int .i64 k, .bool t, .string x, .slice A nl ca, .slice B nn cb, .string p], .int .i64 most] w fun e w1 => ∃ A' c', e = .returned (.slice A' 0 c') ∧ Below w.heap.size w w1) :
    Calls Tryz.prog 56 #[.pointer (some ⟨ba, 0, none⟩), .pointer (some ⟨bl, 0, none⟩), .pointer (some ⟨bn, 0, none⟩), .pointer (some ⟨bt, 0, none⟩)] w (StepOK B0 w S bn bt v p ⟨#[]⟩ 0 false) := by
  have ll := fun o => cell_of_row w bl o _ 32 (0, 0) hb.l
  have aa := fun o => cell_of_row w ba o _ 48 (0, 0) hb.a
  have l0 := ll 0
  have l1 := ll 1
  have l2 := ll 2
  have l3 := ll 3
  have l4 := ll 4
  have l5 := ll 5
  have a0 := aa 0
  have a1 := aa 1
  have a2 := aa 2
  have a3 := aa 3
  have a4 := aa 4
  simp at l0 l1 l2 l3 l4 l5 a0 a1 a2 a3 a4
  have HB := Lib.hid hb
  have H := Lib.hid h
  clear ll aa hb h
  go_enter Tryz.func56, Tryz.ntmps56
  go_wp2_with fail
  refine H.out.mono ?_
  rintro e w1 ⟨A', c', rfl, hb1⟩
  have hlt := HB.out.lt
  have o1 := HB.out.o1
  have o2 := HB.out.o2
  have o3 := HB.out.o3
  have hn1 : w1.heap[bn]? = _ := (hb1.block _ hlt).trans HB.out.n
  have ht1 : w1.heap[bt]? = _ := (hb1.block _ (by omega)).trans HB.out.t
  have nn' := fun o => cell_of_row w bn o _ 32 (0, 0) HB.out.n
  have tt' := fun o => cell_of_row w bt o _ 50 (0, 0) HB.out.t
  have nf : ∀ o, w.frozen? ⟨bn, o, none⟩ = false := fun o => by simp [World.frozen?, HB.out.n]
  have tf : ∀ o, w.frozen? ⟨bt, o, none⟩ = false := fun o => by simp [World.frozen?, HB.out.t]
  obtain ⟨hcb, hfb⟩ := bcell hb1
  have hltl : bl < w.heap.size := by omega
  have hlta : ba < w.heap.size := by omega
  have hltt : bt < w.heap.size := by omega
  have hne1 : ¬ bn = bt := by omega
  have hne2 : ¬ bt = bn := by omega
  have HV := Lib.hid hv
  have HS := Lib.hid hS
  clear hv hS
  have t1 := tt' 1
  simp at t1
  have hs1 := hb1.size
  have hltn1 : bn < w1.heap.size := by omega
  have hltt1 : bt < w1.heap.size := by omega
  have HB1 := Lib.hid hb1
  have HN1 := Lib.hid hn1
  have HT1 := Lib.hid ht1
  clear nn' tt' hn1 ht1 hb1
  go_wp2
  all_goals
   go_end0
   refine StepOK.mk' (w1 := w1) (cs := [.int .i64 k, .bool t, .string x, .slice A nl ca, .slice B nn cb]) (by omega) o3 hlt HB1.out (by (repeat (first | with_reducible refine Also.drew ?_ | with_reducible refine Also.setCell ?_ (by simp) _ | with_reducible refine Also.alloc ?_ _)); exact Also.refl _ _) (by (repeat (first | with_reducible refine Below.drew ?_ | with_reducible refine Below.setCell ?_ (by simp only; omega) _ | with_reducible refine Below.alloc ?_ (by first | omega | (simp only [setCell_size]; omega)) _)); exact Below.refl _ _) ?_ ?_ (HV.out.agree fun b hb hlt => ⟨HB1.out.block b hlt, .inl ⟨hb, HS.out b hb⟩⟩)
   · exact blk_set HT1.out 1 _
   · refine Eq.trans (Also.block (P := fun b => b ≠ bt) (w := w1) ?_ bn (by omega) (by omega)) HN1.out
     (repeat (first | with_reducible refine Also.drew ?_ | with_reducible refine Also.setCell ?_ (by simp) _ | with_reducible refine Also.alloc ?_ _))
     exact Also.refl _ _

set_option maxHeartbeats 1000000 in
theorem step2_pick (hb : Boxes w bl ba bn bt [.int .i64 k, .bool t, .string x, .slice A nl ca, .slice B nn cb, .string p] [.int .i64 kd, .int .i64 n, .int .i64 most, .string name, .slice T nt ct]) (hk : (IntKind.u64.wrap kd).tmod 9 = 2) (B0 : Nat) (S : Nat → Prop) (hB0 : B0 ≤ bl) (v' : V) (p' : ByteArray) (N j : Nat) (hN : N ≤ 4194304) (hjN : j < N) (hj : (IntKind.u64.wrap n).tmod (N : Int) = (j : Int)) (h : Calls Tryz.prog 48 #[.agg #[.int .i64 k, .bool t, .string x, .slice A nl ca, .slice B nn cb, .string p], .int .i64 most] w fun e w1 => ∃ g c' cs, e = .returned (.slice (some ⟨g, 0, none⟩) N c') ∧ Row w1 g (6 * j) (cs ++ [.string p']) ∧ w.heap.size ≤ g ∧ v'.Rep w1 (fun b => (S b ∧ b < B0) ∨ (w.heap.size ≤ b ∧ b < w1.heap.size)) cs ∧ Below w.heap.size w w1) :
    Calls Tryz.prog 56 #[.pointer (some ⟨ba, 0, none⟩), .pointer (some ⟨bl, 0, none⟩), .pointer (some ⟨bn, 0, none⟩), .pointer (some ⟨bt, 0, none⟩)] w (StepOK B0 w S bn bt v' p' ⟨#[]⟩ N false) := by
  have ll := fun o => cell_of_row w bl o _ 32 (0, 0) hb.l
  have aa := fun o => cell_of_row w ba o _ 48 (0, 0) hb.a
  have l0 := ll 0
  have l1 := ll 1
  have l2 := ll 2
  have l3 := ll 3
  have l4 := ll 4
  have l5 := ll 5
  have a0 := aa 0
  have a1 := aa 1
  have a2 := aa 2
  have a3 := aa 3
  have a4 := aa 4
  simp at l0 l1 l2 l3 l4 l5 a0 a1 a2 a3 a4
  have HB := Lib.hid hb
  have H := Lib.hid h
  clear ll aa hb h
  go_enter Tryz.func56, Tryz.ntmps56
  go_wp2_with fail
  refine H.out.mono ?_
  rintro e w1 ⟨g, c', cs1, rfl, hrow, hgw, hrep, hb1⟩
  have hlt := HB.out.lt
  have o1 := HB.out.o1
  have o2 := HB.out.o2
  have o3 := HB.out.o3
  have hn1 : w1.heap[bn]? = _ := (hb1.block _ hlt).trans HB.out.n
  have ht1 : w1.heap[bt]? = _ := (hb1.block _ (by omega)).trans HB.out.t
  have nn' := fun o => cell_of_row w bn o _ 32 (0, 0) HB.out.n
  have tt' := fun o => cell_of_row w bt o _ 50 (0, 0) HB.out.t
  have nf : ∀ o, w.frozen? ⟨bn, o, none⟩ = false := fun o => by simp [World.frozen?, HB.out.n]
  have tf : ∀ o, w.frozen? ⟨bt, o, none⟩ = false := fun o => by simp [World.frozen?, HB.out.t]
  obtain ⟨hcb, hfb⟩ := bcell hb1
  have hltl : bl < w.heap.size := by omega
  have hlta : ba < w.heap.size := by omega
  have hltt : bt < w.heap.size := by omega
  have hne1 : ¬ bn = bt := by omega
  have hne2 : ¬ bt = bn := by omega
  have HREP := Lib.hid hrep
  obtain ⟨A1, ca1, B1, cb1, rfl, -⟩ := hrep.open
  have n0 := nn' 0
  have n1 := nn' 1
  have n2 := nn' 2
  have n3 := nn' 3
  have n4 := nn' 4
  have n5 := nn' 5
  simp at n0 n1 n2 n3 n4 n5
  have t1 := tt' 1
  simp at t1
  have e0 := hrow 0 (by simp)
  have e1 := hrow 1 (by simp)
  have e2 := hrow 2 (by simp)
  have e3 := hrow 3 (by simp)
  have e4 := hrow 4 (by simp)
  have e5 := hrow 5 (by simp)
  simp at e0 e1 e2 e3 e4 e5
  rw [Nat.mul_comm] at e0 e1 e2 e3 e4 e5
  have hj0 : (0 : Int) ≤ (j : Int) := Int.natCast_nonneg _
  have hj1 : (j : Int) < (N : Int) := by omega
  have hN0 : (0 : Int) < (N : Int) := by omega
  have hNb : (N : Int) ≤ 4194304 := by omega
  have hgn : ¬ g = bn := by omega
  have hgt : ¬ g = bt := by omega
  have hgn' : ¬ bn = g := by omega
  have hgt' : ¬ bt = g := by omega
  clear hrep hrow
  have hs1 := hb1.size
  have hltn1 : bn < w1.heap.size := by omega
  have hltt1 : bt < w1.heap.size := by omega
  have HB1 := Lib.hid hb1
  have HN1 := Lib.hid hn1
  have HT1 := Lib.hid ht1
  clear nn' tt' hn1 ht1 hb1
  go_wp2
  all_goals
   go_end0
   refine StepOK.mk' (w1 := w1) (cs := [.int .i64 v'.kind, .bool v'.tr, .string v'.text, .slice A1 v'.list.length ca1, .slice B1 v'.names.length cb1]) (by omega) o3 hlt HB1.out (by (repeat (first | with_reducible refine Also.drew ?_ | with_reducible refine Also.setCell ?_ (by simp) _ | with_reducible refine Also.alloc ?_ _)); exact Also.refl _ _) (by (repeat (first | with_reducible refine Below.drew ?_ | with_reducible refine Below.setCell ?_ (by simp only; omega) _ | with_reducible refine Below.alloc ?_ (by first | omega | (simp only [setCell_size]; omega)) _)); exact Below.refl _ _) ?_ ?_ HREP.out
   · refine (Below.heap_setCell _ _ _ _ (by simp only; omega)).trans ?_
     refine (Below.heap_setCell _ _ _ _ (by simp only; omega)).trans ?_
     refine (Below.heap_setCell _ _ _ _ (by simp only; omega)).trans ?_
     refine (Below.heap_setCell _ _ _ _ (by simp only; omega)).trans ?_
     refine (Below.heap_setCell _ _ _ _ (by simp only; omega)).trans ?_
     refine (Below.heap_setCell _ _ _ _ (by simp only; omega)).trans ?_
     exact blk_set HT1.out 1 _
   · exact blk_set (blk_set (blk_set (blk_set (blk_set (blk_set ((Below.heap_setCell _ _ _ _ (by simp only; omega)).trans HN1.out) 0 _) 1 _) 2 _) 3 _) 4 _) 5 _

set_option maxHeartbeats 1000000 in
theorem step3_empty (hb : Boxes w bl ba bn bt [.int .i64 k, .bool t, .string x, .slice A nl ca, .slice B nn cb, .string p] [.int .i64 kd, .int .i64 n, .int .i64 most, .string name, .slice T nt ct]) (hk : (IntKind.u64.wrap kd).tmod 9 = 3) (B0 : Nat) (S : Nat → Prop) (hB0 : B0 ≤ bl) (v : V) (hv : v.Rep w S [.int .i64 k, .bool t, .string x, .slice A nl ca, .slice B nn cb]) (hS : ∀ b, S b → b < B0) (h : Calls Tryz.prog 58 #[.agg #[.int .i64 k, .bool t, .string x, .slice A nl ca, .slice B nn cb, .string p]] w fun e w1 => ∃ A' c', e = .returned (.slice A' 0 c') ∧ Below w.heap.size w w1) :
    Calls Tryz.prog 56 #[.pointer (some ⟨ba, 0, none⟩), .pointer (some ⟨bl, 0, none⟩), .pointer (some ⟨bn, 0, none⟩), .pointer (some ⟨bt, 0, none⟩)] w (StepOK B0 w S bn bt v p ⟨#[]⟩ 0 false) := by
  have ll := fun o => cell_of_row w bl o _ 32 (0, 0) hb.l
  have aa := fun o => cell_of_row w ba o _ 48 (0, 0) hb.a
  have l0 := ll 0
  have l1 := ll 1
  have l2 := ll 2
  have l3 := ll 3
  have l4 := ll 4
  have l5 := ll 5
  have a0 := aa 0
  have a1 := aa 1
  have a2 := aa 2
  have a3 := aa 3
  have a4 := aa 4
  simp at l0 l1 l2 l3 l4 l5 a0 a1 a2 a3 a4
  have HB := Lib.hid hb
  have H := Lib.hid h
  clear ll aa hb h
  go_enter Tryz.func56, Tryz.ntmps56
  go_wp2_with fail
  refine H.out.mono ?_
  rintro e w1 ⟨A', c', rfl, hb1⟩
  have hlt := HB.out.lt
  have o1 := HB.out.o1
  have o2 := HB.out.o2
  have o3 := HB.out.o3
  have hn1 : w1.heap[bn]? = _ := (hb1.block _ hlt).trans HB.out.n
  have ht1 : w1.heap[bt]? = _ := (hb1.block _ (by omega)).trans HB.out.t
  have nn' := fun o => cell_of_row w bn o _ 32 (0, 0) HB.out.n
  have tt' := fun o => cell_of_row w bt o _ 50 (0, 0) HB.out.t
  have nf : ∀ o, w.frozen? ⟨bn, o, none⟩ = false := fun o => by simp [World.frozen?, HB.out.n]
  have tf : ∀ o, w.frozen? ⟨bt, o, none⟩ = false := fun o => by simp [World.frozen?, HB.out.t]
  obtain ⟨hcb, hfb⟩ := bcell hb1
  have hltl : bl < w.heap.size := by omega
  have hlta : ba < w.heap.size := by omega
  have hltt : bt < w.heap.size := by omega
  have hne1 : ¬ bn = bt := by omega
  have hne2 : ¬ bt = bn := by omega
  have HV := Lib.hid hv
  have HS := Lib.hid hS
  clear hv hS
  have t1 := tt' 1
  simp at t1
  have hs1 := hb1.size
  have hltn1 : bn < w1.heap.size := by omega
  have hltt1 : bt < w1.heap.size := by omega
  have HB1 := Lib.hid hb1
  have HN1 := Lib.hid hn1
  have HT1 := Lib.hid ht1
  clear nn' tt' hn1 ht1 hb1
  go_wp2
  all_goals
   go_end0
   refine StepOK.mk' (w1 := w1) (cs := [.int .i64 k, .bool t, .string x, .slice A nl ca, .slice B nn cb]) (by omega) o3 hlt HB1.out (by (repeat (first | with_reducible refine Also.drew ?_ | with_reducible refine Also.setCell ?_ (by simp) _ | with_reducible refine Also.alloc ?_ _)); exact Also.refl _ _) (by (repeat (first | with_reducible refine Below.drew ?_ | with_reducible refine Below.setCell ?_ (by simp only; omega) _ | with_reducible refine Below.alloc ?_ (by first | omega | (simp only [setCell_size]; omega)) _)); exact Below.refl _ _) ?_ ?_ (HV.out.agree fun b hb hlt => ⟨HB1.out.block b hlt, .inl ⟨hb, HS.out b hb⟩⟩)
   · exact blk_set HT1.out 1 _
   · refine Eq.trans (Also.block (P := fun b => b ≠ bt) (w := w1) ?_ bn (by omega) (by omega)) HN1.out
     (repeat (first | with_reducible refine Also.drew ?_ | with_reducible refine Also.setCell ?_ (by simp) _ | with_reducible refine Also.alloc ?_ _))
     exact Also.refl _ _

set_option maxHeartbeats 1000000 in
theorem step3_pick (hb : Boxes w bl ba bn bt [.int .i64 k, .bool t, .string x, .slice A nl ca, .slice B nn cb, .string p] [.int .i64 kd, .int .i64 n, .int .i64 most, .string name, .slice T nt ct]) (hk : (IntKind.u64.wrap kd).tmod 9 = 3) (B0 : Nat) (S : Nat → Prop) (hB0 : B0 ≤ bl) (v' : V) (p' : ByteArray) (N j : Nat) (hN : N ≤ 4194304) (hjN : j < N) (hj : (IntKind.u64.wrap n).tmod (N : Int) = (j : Int)) (h : Calls Tryz.prog 58 #[.agg #[.int .i64 k, .bool t, .string x, .slice A nl ca, .slice B nn cb, .string p]] w fun e w1 => ∃ g c' cs, e = .returned (.slice (some ⟨g, 0, none⟩) N c') ∧ Row w1 g (6 * j) (cs ++ [.string p']) ∧ w.heap.size ≤ g ∧ v'.Rep w1 (fun b => (S b ∧ b < B0) ∨ (w.heap.size ≤ b ∧ b < w1.heap.size)) cs ∧ Below w.heap.size w w1) :
    Calls Tryz.prog 56 #[.pointer (some ⟨ba, 0, none⟩), .pointer (some ⟨bl, 0, none⟩), .pointer (some ⟨bn, 0, none⟩), .pointer (some ⟨bt, 0, none⟩)] w (StepOK B0 w S bn bt v' p' ⟨#[]⟩ N false) := by
  have ll := fun o => cell_of_row w bl o _ 32 (0, 0) hb.l
  have aa := fun o => cell_of_row w ba o _ 48 (0, 0) hb.a
  have l0 := ll 0
  have l1 := ll 1
  have l2 := ll 2
  have l3 := ll 3
  have l4 := ll 4
  have l5 := ll 5
  have a0 := aa 0
  have a1 := aa 1
  have a2 := aa 2
  have a3 := aa 3
  have a4 := aa 4
  simp at l0 l1 l2 l3 l4 l5 a0 a1 a2 a3 a4
  have HB := Lib.hid hb
  have H := Lib.hid h
  clear ll aa hb h
  go_enter Tryz.func56, Tryz.ntmps56
  go_wp2_with fail
  refine H.out.mono ?_
  rintro e w1 ⟨g, c', cs1, rfl, hrow, hgw, hrep, hb1⟩
  have hlt := HB.out.lt
  have o1 := HB.out.o1
  have o2 := HB.out.o2
  have o3 := HB.out.o3
  have hn1 : w1.heap[bn]? = _ := (hb1.block _ hlt).trans HB.out.n
  have ht1 : w1.heap[bt]? = _ := (hb1.block _ (by omega)).trans HB.out.t
  have nn' := fun o => cell_of_row w bn o _ 32 (0, 0) HB.out.n
  have tt' := fun o => cell_of_row w bt o _ 50 (0, 0) HB.out.t
  have nf : ∀ o, w.frozen? ⟨bn, o, none⟩ = false := fun o => by simp [World.frozen?, HB.out.n]
  have tf : ∀ o, w.frozen? ⟨bt, o, none⟩ = false := fun o => by simp [World.frozen?, HB.out.t]
  obtain ⟨hcb, hfb⟩ := bcell hb1
  have hltl : bl < w.heap.size := by omega
  have hlta : ba < w.heap.size := by omega
  have hltt : bt < w.heap.size := by omega
  have hne1 : ¬ bn = bt := by omega
  have hne2 : ¬ bt = bn := by omega
  have HREP := Lib.hid hrep
  obtain ⟨A1, ca1, B1, cb1, rfl, -⟩ := hrep.open
  have n0 := nn' 0
  have n1 := nn' 1
  have n2 := nn' 2
  have n3 := nn' 3
  have n4 := nn' 4
  have n5 := nn' 5
  simp at n0 n1 n2 n3 n4 n5
  have t1 := tt' 1
  simp at t1
  have e0 := hrow 0 (by simp)
  have e1 := hrow 1 (by simp)
  have e2 := hrow 2 (by simp)
  have e3 := hrow 3 (by simp)
  have e4 := hrow 4 (by simp)
  have e5 := hrow 5 (by simp)
  simp at e0 e1 e2 e3 e4 e5
  rw [Nat.mul_comm] at e0 e1 e2 e3 e4 e5
  have hj0 : (0 : Int) ≤ (j : Int) := Int.natCast_nonneg _
  have hj1 : (j : Int) < (N : Int) := by omega
  have hN0 : (0 : Int) < (N : Int) := by omega
  have hNb : (N : Int) ≤ 4194304 := by omega
  have hgn : ¬ g = bn := by omega
  have hgt : ¬ g = bt := by omega
  have hgn' : ¬ bn = g := by omega
  have hgt' : ¬ bt = g := by omega
  clear hrep hrow
  have hs1 := hb1.size
  have hltn1 : bn < w1.heap.size := by omega
  have hltt1 : bt < w1.heap.size := by omega
  have HB1 := Lib.hid hb1
  have HN1 := Lib.hid hn1
  have HT1 := Lib.hid ht1
  clear nn' tt' hn1 ht1 hb1
  go_wp2
  all_goals
   go_end0
   refine StepOK.mk' (w1 := w1) (cs := [.int .i64 v'.kind, .bool v'.tr, .string v'.text, .slice A1 v'.list.length ca1, .slice B1 v'.names.length cb1]) (by omega) o3 hlt HB1.out (by (repeat (first | with_reducible refine Also.drew ?_ | with_reducible refine Also.setCell ?_ (by simp) _ | with_reducible refine Also.alloc ?_ _)); exact Also.refl _ _) (by (repeat (first | with_reducible refine Below.drew ?_ | with_reducible refine Below.setCell ?_ (by simp only; omega) _ | with_reducible refine Below.alloc ?_ (by first | omega | (simp only [setCell_size]; omega)) _)); exact Below.refl _ _) ?_ ?_ HREP.out
   · refine (Below.heap_setCell _ _ _ _ (by simp only; omega)).trans ?_
     refine (Below.heap_setCell _ _ _ _ (by simp only; omega)).trans ?_
     refine (Below.heap_setCell _ _ _ _ (by simp only; omega)).trans ?_
     refine (Below.heap_setCell _ _ _ _ (by simp only; omega)).trans ?_
     refine (Below.heap_setCell _ _ _ _ (by simp only; omega)).trans ?_
     refine (Below.heap_setCell _ _ _ _ (by simp only; omega)).trans ?_
     exact blk_set HT1.out 1 _
   · exact blk_set (blk_set (blk_set (blk_set (blk_set (blk_set ((Below.heap_setCell _ _ _ _ (by simp only; omega)).trans HN1.out) 0 _) 1 _) 2 _) 3 _) 4 _) 5 _

set_option maxHeartbeats 1000000 in
theorem step4_ok (hb : Boxes w bl ba bn bt [.int .i64 k, .bool t, .string x, .slice A nl ca, .slice B nn cb, .string p] [.int .i64 kd, .int .i64 n, .int .i64 most, .string name, .slice T nt ct]) (hk : (IntKind.u64.wrap kd).tmod 9 = 4) (B0 : Nat) (S : Nat → Prop) (hB0 : B0 ≤ bl) (v : V) (hv : v.Rep w S [.int .i64 k, .bool t, .string x, .slice A nl ca, .slice B nn cb]) (hS : ∀ b, S b → b < B0) (tx : ByteArray) (h : Calls Tryz.prog 59 #[.agg #[.int .i64 k, .bool t, .string x, .slice A nl ca, .slice B nn cb, .string p], .int .i64 most] w fun e w1 => e = .returned (.string tx) ∧ Below w.heap.size w w1) :
    Calls Tryz.prog 56 #[.pointer (some ⟨ba, 0, none⟩), .pointer (some ⟨bl, 0, none⟩), .pointer (some ⟨bn, 0, none⟩), .pointer (some ⟨bt, 0, none⟩)] w (StepOK B0 w S bn bt v p tx 0 false) := by
  have ll := fun o => cell_of_row w bl o _ 32 (0, 0) hb.l
  have aa := fun o => cell_of_row w ba o _ 48 (0, 0) hb.a
  have l0 := ll 0
  have l1 := ll 1
  have l2 := ll 2
  have l3 := ll 3
  have l4 := ll 4
  have l5 := ll 5
  have a0 := aa 0
  have a1 := aa 1
  have a2 := aa 2
  have a3 := aa 3
  have a4 := aa 4
  simp at l0 l1 l2 l3 l4 l5 a0 a1 a2 a3 a4
  have HB := Lib.hid hb
  have H := Lib.hid h
  clear ll aa hb h
  go_enter Tryz.func56, Tryz.ntmps56
  go_wp2_with fail
  refine H.out.mono ?_
  rintro e w1 ⟨rfl, hb1⟩
  have hlt := HB.out.lt
  have o1 := HB.out.o1
  have o2 := HB.out.o2
  have o3 := HB.out.o3
  have hn1 : w1.heap[bn]? = _ := (hb1.block _ hlt).trans HB.out.n
  have ht1 : w1.heap[bt]? = _ := (hb1.block _ (by omega)).trans HB.out.t
  have nn' := fun o => cell_of_row w bn o _ 32 (0, 0) HB.out.n
  have tt' := fun o => cell_of_row w bt o _ 50 (0, 0) HB.out.t
  have nf : ∀ o, w.frozen? ⟨bn, o, none⟩ = false := fun o => by simp [World.frozen?, HB.out.n]
  have tf : ∀ o, w.frozen? ⟨bt, o, none⟩ = false := fun o => by simp [World.frozen?, HB.out.t]
  obtain ⟨hcb, hfb⟩ := bcell hb1
  have hltl : bl < w.heap.size := by omega
  have hlta : ba < w.heap.size := by omega
  have hltt : bt < w.heap.size := by omega
  have hne1 : ¬ bn = bt := by omega
  have hne2 : ¬ bt = bn := by omega
  have HV := Lib.hid hv
  have HS := Lib.hid hS
  clear hv hS
  have t0 := tt' 0
  simp at t0
  have hs1 := hb1.size
  have hltn1 : bn < w1.heap.size := by omega
  have hltt1 : bt < w1.heap.size := by omega
  have HB1 := Lib.hid hb1
  have HN1 := Lib.hid hn1
  have HT1 := Lib.hid ht1
  clear nn' tt' hn1 ht1 hb1
  go_wp2
  all_goals
   go_end0
   refine StepOK.mk' (w1 := w1) (cs := [.int .i64 k, .bool t, .string x, .slice A nl ca, .slice B nn cb]) (by omega) o3 hlt HB1.out (by (repeat (first | with_reducible refine Also.drew ?_ | with_reducible refine Also.setCell ?_ (by simp) _ | with_reducible refine Also.alloc ?_ _)); exact Also.refl _ _) (by (repeat (first | with_reducible refine Below.drew ?_ | with_reducible refine Below.setCell ?_ (by simp only; omega) _ | with_reducible refine Below.alloc ?_ (by first | omega | (simp only [setCell_size]; omega)) _)); exact Below.refl _ _) ?_ ?_ (HV.out.agree fun b hb hlt => ⟨HB1.out.block b hlt, .inl ⟨hb, HS.out b hb⟩⟩)
   · exact blk_set HT1.out 0 _
   · refine Eq.trans (Also.block (P := fun b => b ≠ bt) (w := w1) ?_ bn (by omega) (by omega)) HN1.out
     (repeat (first | with_reducible refine Also.drew ?_ | with_reducible refine Also.setCell ?_ (by simp) _ | with_reducible refine Also.alloc ?_ _))
     exact Also.refl _ _

set_option maxHeartbeats 1000000 in
theorem step5_ok (hb : Boxes w bl ba bn bt [.int .i64 k, .bool t, .string x, .slice A nl ca, .slice B nn cb, .string p] [.int .i64 kd, .int .i64 n, .int .i64 most, .string name, .slice T nt ct]) (hk : (IntKind.u64.wrap kd).tmod 9 = 5) (B0 : Nat) (S : Nat → Prop) (hB0 : B0 ≤ bl) (v : V) (hv : v.Rep w S [.int .i64 k, .bool t, .string x, .slice A nl ca, .slice B nn cb]) (hS : ∀ b, S b → b < B0) (tx : ByteArray) (h : Calls Tryz.prog 60 #[.agg #[.int .i64 k, .bool t, .string x, .slice A nl ca, .slice B nn cb, .string p], .slice T nt ct] w fun e w1 => e = .returned (.string tx) ∧ Below w.heap.size w w1) :
    Calls Tryz.prog 56 #[.pointer (some ⟨ba, 0, none⟩), .pointer (some ⟨bl, 0, none⟩), .pointer (some ⟨bn, 0, none⟩), .pointer (some ⟨bt, 0, none⟩)] w (StepOK B0 w S bn bt v p tx 0 false) := by
  have ll := fun o => cell_of_row w bl o _ 32 (0, 0) hb.l
  have aa := fun o => cell_of_row w ba o _ 48 (0, 0) hb.a
  have l0 := ll 0
  have l1 := ll 1
  have l2 := ll 2
  have l3 := ll 3
  have l4 := ll 4
  have l5 := ll 5
  have a0 := aa 0
  have a1 := aa 1
  have a2 := aa 2
  have a3 := aa 3
  have a4 := aa 4
  simp at l0 l1 l2 l3 l4 l5 a0 a1 a2 a3 a4
  have HB := Lib.hid hb
  have H := Lib.hid h
  clear ll aa hb h
  go_enter Tryz.func56, Tryz.ntmps56
  go_wp2_with fail
  refine H.out.mono ?_
  rintro e w1 ⟨rfl, hb1⟩
  have hlt := HB.out.lt
  have o1 := HB.out.o1
  have o2 := HB.out.o2
  have o3 := HB.out.o3
  have hn1 : w1.heap[bn]? = _ := (hb1.block _ hlt).trans HB.out.n
  have ht1 : w1.heap[bt]? = _ := (hb1.block _ (by omega)).trans HB.out.t
  have nn' := fun o => cell_of_row w bn o _ 32 (0, 0) HB.out.n
  have tt' := fun o => cell_of_row w bt o _ 50 (0, 0) HB.out.t
  have nf : ∀ o, w.frozen? ⟨bn, o, none⟩ = false := fun o => by simp [World.frozen?, HB.out.n]
  have tf : ∀ o, w.frozen? ⟨bt, o, none⟩ = false := fun o => by simp [World.frozen?, HB.out.t]
  obtain ⟨hcb, hfb⟩ := bcell hb1
  have hltl : bl < w.heap.size := by omega
  have hlta : ba < w.heap.size := by omega
  have hltt : bt < w.heap.size := by omega
  have hne1 : ¬ bn = bt := by omega
  have hne2 : ¬ bt = bn := by omega
  have HV := Lib.hid hv
  have HS := Lib.hid hS
  clear hv hS
  have t0 := tt' 0
  simp at t0
  have hs1 := hb1.size
  have hltn1 : bn < w1.heap.size := by omega
  have hltt1 : bt < w1.heap.size := by omega
  have HB1 := Lib.hid hb1
  have HN1 := Lib.hid hn1
  have HT1 := Lib.hid ht1
  clear nn' tt' hn1 ht1 hb1
  go_wp2
  all_goals
   go_end0
   refine StepOK.mk' (w1 := w1) (cs := [.int .i64 k, .bool t, .string x, .slice A nl ca, .slice B nn cb]) (by omega) o3 hlt HB1.out (by (repeat (first | with_reducible refine Also.drew ?_ | with_reducible refine Also.setCell ?_ (by simp) _ | with_reducible refine Also.alloc ?_ _)); exact Also.refl _ _) (by (repeat (first | with_reducible refine Below.drew ?_ | with_reducible refine Below.setCell ?_ (by simp only; omega) _ | with_reducible refine Below.alloc ?_ (by first | omega | (simp only [setCell_size]; omega)) _)); exact Below.refl _ _) ?_ ?_ (HV.out.agree fun b hb hlt => ⟨HB1.out.block b hlt, .inl ⟨hb, HS.out b hb⟩⟩)
   · exact blk_set HT1.out 0 _
   · refine Eq.trans (Also.block (P := fun b => b ≠ bt) (w := w1) ?_ bn (by omega) (by omega)) HN1.out
     (repeat (first | with_reducible refine Also.drew ?_ | with_reducible refine Also.setCell ?_ (by simp) _ | with_reducible refine Also.alloc ?_ _))
     exact Also.refl _ _

set_option maxHeartbeats 1000000 in
theorem step6_ok (hb : Boxes w bl ba bn bt [.int .i64 k, .bool t, .string x, .slice A nl ca, .slice B nn cb, .string p] [.int .i64 kd, .int .i64 n, .int .i64 most, .string name, .slice T nt ct]) (hk : (IntKind.u64.wrap kd).tmod 9 = 6) (B0 : Nat) (S : Nat → Prop) (hB0 : B0 ≤ bl) (v : V) (hv : v.Rep w S [.int .i64 k, .bool t, .string x, .slice A nl ca, .slice B nn cb]) (hS : ∀ b, S b → b < B0) (ti : Bool) (h : Calls Tryz.prog 61 #[.agg #[.int .i64 k, .bool t, .string x, .slice A nl ca, .slice B nn cb, .string p]] w fun e w1 => e = .returned (.bool ti) ∧ Below w.heap.size w w1) :
    Calls Tryz.prog 56 #[.pointer (some ⟨ba, 0, none⟩), .pointer (some ⟨bl, 0, none⟩), .pointer (some ⟨bn, 0, none⟩), .pointer (some ⟨bt, 0, none⟩)] w (StepOK B0 w S bn bt v p ⟨#[]⟩ 0 ti) := by
  have ll := fun o => cell_of_row w bl o _ 32 (0, 0) hb.l
  have aa := fun o => cell_of_row w ba o _ 48 (0, 0) hb.a
  have l0 := ll 0
  have l1 := ll 1
  have l2 := ll 2
  have l3 := ll 3
  have l4 := ll 4
  have l5 := ll 5
  have a0 := aa 0
  have a1 := aa 1
  have a2 := aa 2
  have a3 := aa 3
  have a4 := aa 4
  simp at l0 l1 l2 l3 l4 l5 a0 a1 a2 a3 a4
  have HB := Lib.hid hb
  have H := Lib.hid h
  clear ll aa hb h
  go_enter Tryz.func56, Tryz.ntmps56
  go_wp2_with fail
  refine H.out.mono ?_
  rintro e w1 ⟨rfl, hb1⟩
  have hlt := HB.out.lt
  have o1 := HB.out.o1
  have o2 := HB.out.o2
  have o3 := HB.out.o3
  have hn1 : w1.heap[bn]? = _ := (hb1.block _ hlt).trans HB.out.n
  have ht1 : w1.heap[bt]? = _ := (hb1.block _ (by omega)).trans HB.out.t
  have nn' := fun o => cell_of_row w bn o _ 32 (0, 0) HB.out.n
  have tt' := fun o => cell_of_row w bt o _ 50 (0, 0) HB.out.t
  have nf : ∀ o, w.frozen? ⟨bn, o, none⟩ = false := fun o => by simp [World.frozen?, HB.out.n]
  have tf : ∀ o, w.frozen? ⟨bt, o, none⟩ = false := fun o => by simp [World.frozen?, HB.out.t]
  obtain ⟨hcb, hfb⟩ := bcell hb1
  have hltl : bl < w.heap.size := by omega
  have hlta : ba < w.heap.size := by omega
  have hltt : bt < w.heap.size := by omega
  have hne1 : ¬ bn = bt := by omega
  have hne2 : ¬ bt = bn := by omega
  have HV := Lib.hid hv
  have HS := Lib.hid hS
  clear hv hS
  have t2 := tt' 2
  simp at t2
  have hs1 := hb1.size
  have hltn1 : bn < w1.heap.size := by omega
  have hltt1 : bt < w1.heap.size := by omega
  have HB1 := Lib.hid hb1
  have HN1 := Lib.hid hn1
  have HT1 := Lib.hid ht1
  clear nn' tt' hn1 ht1 hb1
  go_wp2
  all_goals
   go_end0
   refine StepOK.mk' (w1 := w1) (cs := [.int .i64 k, .bool t, .string x, .slice A nl ca, .slice B nn cb]) (by omega) o3 hlt HB1.out (by (repeat (first | with_reducible refine Also.drew ?_ | with_reducible refine Also.setCell ?_ (by simp) _ | with_reducible refine Also.alloc ?_ _)); exact Also.refl _ _) (by (repeat (first | with_reducible refine Below.drew ?_ | with_reducible refine Below.setCell ?_ (by simp only; omega) _ | with_reducible refine Below.alloc ?_ (by first | omega | (simp only [setCell_size]; omega)) _)); exact Below.refl _ _) ?_ ?_ (HV.out.agree fun b hb hlt => ⟨HB1.out.block b hlt, .inl ⟨hb, HS.out b hb⟩⟩)
   · exact blk_set HT1.out 2 _
   · refine Eq.trans (Also.block (P := fun b => b ≠ bt) (w := w1) ?_ bn (by omega) (by omega)) HN1.out
     (repeat (first | with_reducible refine Also.drew ?_ | with_reducible refine Also.setCell ?_ (by simp) _ | with_reducible refine Also.alloc ?_ _))
     exact Also.refl _ _

set_option maxHeartbeats 1000000 in
theorem step7_ok (hb : Boxes w bl ba bn bt [.int .i64 k, .bool t, .string x, .slice A nl ca, .slice B nn cb, .string p] [.int .i64 kd, .int .i64 n, .int .i64 most, .string name, .slice T nt ct]) (hk : (IntKind.u64.wrap kd).tmod 9 = 7) (B0 : Nat) (S : Nat → Prop) (hB0 : B0 ≤ bl) (v : V) (hv : v.Rep w S [.int .i64 k, .bool t, .string x, .slice A nl ca, .slice B nn cb]) (hS : ∀ b, S b → b < B0) (tn : Int) (h : Calls Tryz.prog 13 #[.agg #[.int .i64 k, .bool t, .string x, .slice A nl ca, .slice B nn cb, .string p], .int .i64 n, .int .i64 most] w fun e w1 => e = .returned (.int .i64 tn) ∧ Below w.heap.size w w1) :
    Calls Tryz.prog 56 #[.pointer (some ⟨ba, 0, none⟩), .pointer (some ⟨bl, 0, none⟩), .pointer (some ⟨bn, 0, none⟩), .pointer (some ⟨bt, 0, none⟩)] w (StepOK B0 w S bn bt v p ⟨#[]⟩ tn false) := by
  have ll := fun o => cell_of_row w bl o _ 32 (0, 0) hb.l
  have aa := fun o => cell_of_row w ba o _ 48 (0, 0) hb.a
  have l0 := ll 0
  have l1 := ll 1
  have l2 := ll 2
  have l3 := ll 3
  have l4 := ll 4
  have l5 := ll 5
  have a0 := aa 0
  have a1 := aa 1
  have a2 := aa 2
  have a3 := aa 3
  have a4 := aa 4
  simp at l0 l1 l2 l3 l4 l5 a0 a1 a2 a3 a4
  have HB := Lib.hid hb
  have H := Lib.hid h
  clear ll aa hb h
  go_enter Tryz.func56, Tryz.ntmps56
  go_wp2_with fail
  refine H.out.mono ?_
  rintro e w1 ⟨rfl, hb1⟩
  have hlt := HB.out.lt
  have o1 := HB.out.o1
  have o2 := HB.out.o2
  have o3 := HB.out.o3
  have hn1 : w1.heap[bn]? = _ := (hb1.block _ hlt).trans HB.out.n
  have ht1 : w1.heap[bt]? = _ := (hb1.block _ (by omega)).trans HB.out.t
  have nn' := fun o => cell_of_row w bn o _ 32 (0, 0) HB.out.n
  have tt' := fun o => cell_of_row w bt o _ 50 (0, 0) HB.out.t
  have nf : ∀ o, w.frozen? ⟨bn, o, none⟩ = false := fun o => by simp [World.frozen?, HB.out.n]
  have tf : ∀ o, w.frozen? ⟨bt, o, none⟩ = false := fun o => by simp [World.frozen?, HB.out.t]
  obtain ⟨hcb, hfb⟩ := bcell hb1
  have hltl : bl < w.heap.size := by omega
  have hlta : ba < w.heap.size := by omega
  have hltt : bt < w.heap.size := by omega
  have hne1 : ¬ bn = bt := by omega
  have hne2 : ¬ bt = bn := by omega
  have HV := Lib.hid hv
  have HS := Lib.hid hS
  clear hv hS
  have t1 := tt' 1
  simp at t1
  have hs1 := hb1.size
  have hltn1 : bn < w1.heap.size := by omega
  have hltt1 : bt < w1.heap.size := by omega
  have HB1 := Lib.hid hb1
  have HN1 := Lib.hid hn1
  have HT1 := Lib.hid ht1
  clear nn' tt' hn1 ht1 hb1
  go_wp2
  all_goals
   go_end0
   refine StepOK.mk' (w1 := w1) (cs := [.int .i64 k, .bool t, .string x, .slice A nl ca, .slice B nn cb]) (by omega) o3 hlt HB1.out (by (repeat (first | with_reducible refine Also.drew ?_ | with_reducible refine Also.setCell ?_ (by simp) _ | with_reducible refine Also.alloc ?_ _)); exact Also.refl _ _) (by (repeat (first | with_reducible refine Below.drew ?_ | with_reducible refine Below.setCell ?_ (by simp only; omega) _ | with_reducible refine Below.alloc ?_ (by first | omega | (simp only [setCell_size]; omega)) _)); exact Below.refl _ _) ?_ ?_ (HV.out.agree fun b hb hlt => ⟨HB1.out.block b hlt, .inl ⟨hb, HS.out b hb⟩⟩)
   · exact blk_set HT1.out 1 _
   · refine Eq.trans (Also.block (P := fun b => b ≠ bt) (w := w1) ?_ bn (by omega) (by omega)) HN1.out
     (repeat (first | with_reducible refine Also.drew ?_ | with_reducible refine Also.setCell ?_ (by simp) _ | with_reducible refine Also.alloc ?_ _))
     exact Also.refl _ _

end

end Go.Proofs.YtoimjnmhinfbkaaGreatDoor
