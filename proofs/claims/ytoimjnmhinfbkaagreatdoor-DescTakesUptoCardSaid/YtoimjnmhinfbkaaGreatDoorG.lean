import Derived.Test.YtoimjnmhinfbkaaGreatDoorF
namespace Go.Proofs.YtoimjnmhinfbkaaGreatDoor
open Go.RowKit
set_option maxRecDepth 100000

theorem named_no (k : Int) (t : Bool) (x : ByteArray) (A : Option Addr) (n ca : Nat) (B : Option Addr) (m cb : Nat) (p name : ByteArray) (w : World) (h : (k == 5) = false) :
    Calls Tryz.prog 92 #[.agg #[.int .i64 k, .bool t, .string x, .slice A n ca, .slice B m cb, .string p], .string name] w (Threw w 11 p) := by
  go_enter Tryz.func92, Tryz.ntmps92
  go_wp2_with (go_at_call 51; refine (kind_no _ _ _ _ _ _ _ _ _ _ _ _ h).mono ?_; rintro e w' ⟨g, rfl, h⟩)
  exact ⟨rfl, Threw.of ⟨g, rfl, h⟩ (((Below.refl _ _).alloc (Nat.le_refl _) _).alloc (by simp) _)⟩

theorem V.Rep.fresh {v : V} {w2 W : World} {lo lo2 g : Nat} {cs : List Value} (h : v.Rep w2 (fun b => lo2 ≤ b ∧ b < w2.heap.size) cs) (ha : Also (fun b => b ≠ g) w2 W) (hl : lo ≤ lo2) (hg : g < lo2) :
    v.Rep W (fun b => lo ≤ b ∧ b < W.heap.size) cs :=
  h.also ha fun b hb hlt => ⟨by omega, by omega, Nat.lt_of_lt_of_le hlt ha.size⟩

set_option maxHeartbeats 2000000 in
theorem named_yes (v : V) (cs : List Value) (p name : ByteArray) (w : World) (S : Nat → Prop) (hv : v.Rep w S cs) (hb : v.bulk ≤ 4194304) (hk : v.kind = 5) (hp : p.size ≤ 1073741824) (hn : name.size ≤ 1073741824) :
    Calls Tryz.prog 92 #[.agg (cs ++ [Value.string p]).toArray, .string name] w
      fun e w' => ∃ cs', e = .returned (.tuple #[.agg (cs' ++ [Value.string (fieldPlace p name)]).toArray, .bool (v.get name).isSome]) ∧
        ((v.get name).getD V.zero).Rep w' (fun b => w.heap.size ≤ b ∧ b < w'.heap.size) cs' ∧ Below w.heap.size w w' := by
  have hv2 := hv
  obtain ⟨A, ca, B, cb, rfl, -⟩ := hv.open
  have HV := Lib.hid hv2
  rw [hk] at HV
  clear hv hv2
  rw [hk]
  simp only [List.cons_append, List.nil_append]
  generalize hu : (v.get name).getD V.zero = u
  generalize hq : (v.get name).isSome = q
  have hg := get_any v [.int .i64 5, .bool v.tr, .string v.text, .slice A v.list.length ca, .slice B v.names.length cb] name
  rw [hu, hq] at hg
  have HGet := Lib.hid hg
  clear hg hu hq
  go_enter Tryz.func92, Tryz.ntmps92
  go_wp2_with fail
  refine (kind_yes _ _ _ _ _ _ _ _ _ _ _ _ (by rfl)).mono ?_
  rintro e w1 ⟨rfl, hb1⟩
  have b1 : Below w.heap.size w w1 := (((Below.refl w.heap.size w).alloc (Nat.le_refl _) _).alloc (by simp) _).trans (hb1.mono (by simp; omega))
  obtain ⟨hc1, hf1⟩ := bcell hb1
  have hz1 : w.heap.size + 1 < w1.heap.size := by have := hb1.size; simp at this; omega
  have hz2 : w.heap.size < w1.heap.size := by omega
  have HB1 := Lib.hid b1
  clear b1
  go_wp2_with (go_at_call 122; refine (HGet.out _ S (HV.out.agree fun b hb hlt => ⟨HB1.out.block b hlt, hb⟩) hb).mono ?_; rintro e w2 ⟨cs2, rfl, hrep2, hb2⟩; obtain ⟨A4, ca4, B4, cb4, rfl, -⟩ := hrep2.open; have HREP2 := Lib.hid hrep2; clear hrep2; obtain ⟨hc2, hf2⟩ := bcell hb2; have hy1 : w.heap.size + 1 < w2.heap.size := (by have := hb2.size; omega); have hy2 : w.heap.size < w2.heap.size := (by omega))
  go_region_with (go_at_call 101; refine (field_any _ _ _ _ _ _ _ _ _ _ _ _ hp hn).mono ?_; rintro e w3 ⟨rfl, rfl⟩)
  all_goals
    go_wp2
    refine bodyPost_ret (v := .tuple #[.agg #[.int .i64 u.kind, .bool u.tr, .string u.text, .slice A4 u.list.length ca4, .slice B4 u.names.length cb4, .string (fieldPlace p name)], .bool q]) (by simp [results, Tryz.results92, go_sem, hc2, hc1, hz1, hy1, hy2, Nat.lt_succ_of_lt hy2]) rfl ?_
    refine ⟨[.int .i64 u.kind, .bool u.tr, .string u.text, .slice A4 u.list.length ca4, .slice B4 u.names.length cb4], rfl, ?_, ?_⟩
    · have hs1 := hb1.size
      simp at hs1
      exact HREP2.out.fresh (lo := w.heap.size) (g := w.heap.size + 1) (by (repeat (first | with_reducible refine Also.drew ?_ | with_reducible refine Also.alloc ?_ _ | with_reducible refine Also.setCell ?_ (by simp) _)); exact Also.refl _ _) (by omega) (by omega)
    · (repeat (first | with_reducible refine Below.drew ?_ | with_reducible refine Below.alloc ?_ (by simp; omega) _ | with_reducible refine Below.setCell ?_ (by simp) _))
      exact HB1.out.trans (hb2.mono (by omega))

end Go.Proofs.YtoimjnmhinfbkaaGreatDoor
