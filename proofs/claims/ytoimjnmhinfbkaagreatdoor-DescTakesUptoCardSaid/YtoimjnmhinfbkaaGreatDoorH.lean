import Derived.Test.YtoimjnmhinfbkaaGreatDoorG
import Derived.Test.YtoimjnmhinfbkaaGreatDoorP
namespace Go.Proofs.YtoimjnmhinfbkaaGreatDoor
open Go.RowKit
set_option maxRecDepth 100000

theorem lfield_kind (k : Int) (t : Bool) (x : ByteArray) (A : Option Addr) (n ca : Nat) (B : Option Addr) (m cb : Nat) (p name : ByteArray) (w : World) (h : (k == 5) = false) :
    Calls Tryz.prog 47 #[.agg #[.int .i64 k, .bool t, .string x, .slice A n ca, .slice B m cb, .string p], .string name] w (Threw w 11 p) := by
  go_enter Tryz.func47, Tryz.ntmps47
  go_wp2_with (go_at_call 92; refine (named_no _ _ _ _ _ _ _ _ _ _ _ _ h).mono ?_; rintro e w' ⟨g, rfl, h⟩)
  exact ⟨rfl, Threw.of ⟨g, rfl, h⟩ (((Below.refl _ _).alloc (Nat.le_refl _) _).alloc (by simp) _)⟩

theorem lfield_none (v : V) (cs : List Value) (p name : ByteArray) (w : World) (S : Nat → Prop) (hv : v.Rep w S cs) (hb : v.bulk ≤ 4194304) (hk : v.kind = 5) (hp : p.size ≤ 1073741824) (hn : name.size ≤ 1073741824)
    (hg : v.get name = none) :
    Calls Tryz.prog 47 #[.agg (cs ++ [Value.string p]).toArray, .string name] w (Threw w 4 (fieldPlace p name)) := by
  have hv2 := hv
  obtain ⟨A, ca, B, cb, rfl, -⟩ := hv.open
  have hnm := named_yes v [.int .i64 v.kind, .bool v.tr, .string v.text, .slice A v.list.length ca, .slice B v.names.length cb] p name
  rw [hg] at hnm
  simp only [Option.getD_none, Option.isSome_none, List.cons_append, List.nil_append] at hnm ⊢
  have HN := Lib.hid hnm
  have HV := Lib.hid hv2
  have HK := Lib.hid hk
  clear hnm hv hv2 hg hk
  go_enter Tryz.func47, Tryz.ntmps47
  go_wp2_with (first | (go_at_call 92; refine (HN.out _ S (by exact HV.out.agree fun b hb hlt => ⟨below_agree (((Below.refl w.heap.size w).alloc (Nat.le_refl _) _).alloc (by simp) _) b hlt, hb⟩) hb HK.out hp hn).mono ?_; rintro e w1 ⟨cs1, rfl, hrep1, hb1⟩; obtain ⟨A1, ca1, B1, cb1, rfl, -⟩ := hrep1.open; clear hrep1) | (go_at_call 54; refine (lmust_no _ _ _ _ _ _ _ _ _ _ _ _).mono ?_; rintro e w' ⟨g, rfl, h⟩))
  exact ⟨rfl, Threw.of ⟨g, rfl, h⟩ (((((Below.refl _ _).alloc (Nat.le_refl _) _).alloc (by simp) _).trans (hb1.mono (by simp; omega))).alloc (by have := hb1.size; simp at this; omega) _)⟩

theorem lfield_some (v u : V) (cs : List Value) (p name : ByteArray) (w : World) (S : Nat → Prop) (hv : v.Rep w S cs) (hb : v.bulk ≤ 4194304) (hk : v.kind = 5) (hp : p.size ≤ 1073741824) (hn : name.size ≤ 1073741824)
    (hg : v.get name = some u) :
    Calls Tryz.prog 47 #[.agg (cs ++ [Value.string p]).toArray, .string name] w fun e w' => ∃ cs', e = .returned (.agg (cs' ++ [Value.string (fieldPlace p name)]).toArray) ∧
      u.Rep w' (fun b => w.heap.size ≤ b ∧ b < w'.heap.size) cs' ∧ Below w.heap.size w w' := by
  have hv2 := hv
  obtain ⟨A, ca, B, cb, rfl, -⟩ := hv.open
  have hnm := named_yes v [.int .i64 v.kind, .bool v.tr, .string v.text, .slice A v.list.length ca, .slice B v.names.length cb] p name
  rw [hg] at hnm
  simp only [Option.getD_some, Option.isSome_some, List.cons_append, List.nil_append] at hnm ⊢
  have HN := Lib.hid hnm
  have HV := Lib.hid hv2
  have HK := Lib.hid hk
  clear hnm hv hv2 hg hk
  go_enter Tryz.func47, Tryz.ntmps47
  go_wp2_with (first | (go_at_call 92; refine (HN.out _ S (by exact HV.out.agree fun b hb hlt => ⟨below_agree (((Below.refl w.heap.size w).alloc (Nat.le_refl _) _).alloc (by simp) _) b hlt, hb⟩) hb HK.out hp hn).mono ?_; rintro e w1 ⟨cs1, rfl, hrep1, hb1⟩; obtain ⟨A1, ca1, B1, cb1, rfl, -⟩ := hrep1.open; have HR1 := Lib.hid hrep1; clear hrep1; have hz1 : w.heap.size + 1 < w1.heap.size := (by have := hb1.size; simp at this; omega); have hz2 : w.heap.size < w1.heap.size := (by omega); obtain ⟨hc1, hf1⟩ := bcell hb1) | (go_at_call 54; refine (lmust_yes _ _ _ _ _ _ _ _ _ _ _ _).mono ?_; rintro e w2 ⟨rfl, hb2⟩; obtain ⟨hc2, hf2⟩ := bcell hb2; have hy1 : w.heap.size + 1 < w2.heap.size := (by have := hb2.size; simp at this; omega); have hy2 : w1.heap.size < w2.heap.size := (by have := hb2.size; simp at this; omega)))
  refine bodyPost_ret (v := .agg #[.int .i64 u.kind, .bool u.tr, .string u.text, .slice A1 u.list.length ca1, .slice B1 u.names.length cb1, .string (fieldPlace p name)]) (by simp [results, Tryz.results47, go_sem, hc2, hc1, hz1, hy1, hz2, Nat.lt_succ_of_lt hz1]) rfl ?_
  refine ⟨[.int .i64 u.kind, .bool u.tr, .string u.text, .slice A1 u.list.length ca1, .slice B1 u.names.length cb1], rfl, ?_, ?_⟩
  · refine HR1.out.fresh (lo := w.heap.size) (g := w.heap.size + 1) ?_ (by simp; omega) (by simp)
    (repeat (first | with_reducible refine Also.drew ?_ | with_reducible refine Also.alloc ?_ _ | with_reducible refine Also.setCell ?_ (by simp) _))
    exact ((Also.refl _ _).alloc _).below hb2 (Nat.le_refl _)
  · (repeat (first | with_reducible refine Below.setCell ?_ (by simp) _))
    exact ((((Below.refl _ _).alloc (Nat.le_refl _) _).alloc (by simp) _).trans (hb1.mono (by simp; omega))).trans ((((Below.refl _ _).alloc (by omega) _)).trans (hb2.mono (by simp; omega)))

end Go.Proofs.YtoimjnmhinfbkaaGreatDoor
