import Derived.Deep.RegionHeld3
import Derived.Test.YtoimjnmhinfbkaaGreatDoorS12
import Derived.Test.YtoimjnmhinfbkaaGreatDoorS13
namespace Go.Proofs.YtoimjnmhinfbkaaGreatDoor
open Go.RowKit
set_option maxRecDepth 100000
theorem ba_empty {s : ByteArray} (h : s.toList.isEmpty = true) : s = ⟨#[]⟩ := by
  have h1 : s.toList = [] := by simpa using h
  refine Go.WideShapes.bytes_inj ?_
  rw [← ByteArray.toList_eq, h1]
/-- what a descriptor is as a value: nothing, if it may not be. -/
noncomputable def valV (m n : ByteArray) (z : Int) (a o v : ByteArray) : V := if checkA m n z a o v = 0 then descVal m n z.toNat a o v else zeroV
theorem good_split {m n : ByteArray} {z : Int} {a o v : ByteArray} (hc : checkA m n z a o v = 0) : (0 ≤ z ∧ z ≤ 1048576) ∧ ((a = ⟨#[]⟩ ∧ o = ⟨#[]⟩ ∧ v = ⟨#[]⟩) ∨ eB a = false) := by
  unfold checkA checkV at hc
  split at hc
  · omega
  · rename_i h1
    split at hc
    · omega
    · split at hc
      · omega
      · rename_i h2
        refine ⟨by omega, ?_⟩
        have hg : goodB a o v = true := by
          cases h : goodB a o v with
          | true => rfl
          | false => rw [h] at h1; simp at h1
        unfold goodB at hg
        cases ea : a.toList.isEmpty with
        | false => exact .inr ea
        | true =>
          rw [ea] at hg
          cases eo : o.toList.isEmpty <;> cases ev : v.toList.isEmpty <;> rw [eo, ev] at hg <;> simp [goodV] at hg
          exact .inl ⟨ba_empty ea, ba_empty eo, ba_empty ev⟩
theorem value_any (m n : ByteArray) (z : Int) (a o v : ByteArray) (w : World) (hg : Glob w) (lm : m.size ≤ 1000) (ln : n.size ≤ 1000) (la : a.size ≤ 1000) (lo : o.size ≤ 1000) (lv : v.size ≤ 1000) :
    Calls Tryz.prog 33 #[.agg #[.string m, .string n, .int .i64 z, .string a, .string o, .string v]] w (ValRes (valV m n z a o v) (checkA m n z a o v) w) := by
  unfold valV
  by_cases hc : checkA m n z a o v = 0
  · obtain ⟨⟨h1, h2⟩, h3⟩ := good_split hc
    rw [if_pos hc, hc]
    obtain ⟨k, rfl⟩ : ∃ k : Nat, z = k := ⟨z.toNat, by omega⟩
    exact value_good m n k a o v w hg (by omega) (by omega) (by omega) (by omega) (by omega) (by omega) hc h3
  · rw [if_neg hc]
    exact value_bad m n z a o v w hg (by omega) (by omega) (by omega) (by omega) (by omega) hc
theorem rvalue_any (m n : ByteArray) (z : Int) (a o v : ByteArray) (w : World) (lm : m.size ≤ 1000) (ln : n.size ≤ 1000) (la : a.size ≤ 1000) (lo : o.size ≤ 1000) (lv : v.size ≤ 1000) :
    Calls Tryz.prog 34 #[.agg #[.string m, .string n, .int .i64 z, .string a, .string o, .string v]] w (RefRes (valV m n z a o v) (checkA m n z a o v) w) := by
  unfold valV
  by_cases hc : checkA m n z a o v = 0
  · obtain ⟨⟨h1, h2⟩, h3⟩ := good_split hc
    rw [if_pos hc, hc]
    obtain ⟨k, rfl⟩ : ∃ k : Nat, z = k := ⟨z.toNat, by omega⟩
    exact rvalue_good m n k a o v w lm ln la lo lv (by omega) hc h3
  · rw [if_neg hc]
    exact rvalue_bad m n z a o v w (by omega) (by omega) (by omega) (by omega) (by omega) hc
theorem descVal_bulk {m n : ByteArray} {z : Nat} {a o v : ByteArray} (lm : m.size ≤ 1000) (ln : n.size ≤ 1000) (la : a.size ≤ 1000) (lo : o.size ≤ 1000) (lv : v.size ≤ 1000) (hz : z ≤ 1048576) : (descVal m n z a o v).bulk ≤ 4194304 := by
  have hd := decDigits_length 19 z (by omega)
  have e1 : (⟨(Lib.decDigits z).toArray⟩ : ByteArray).size = (Lib.decDigits z).length := by simp [ByteArray.size]
  have c1 : (⟨#[97, 114, 99, 104, 105, 116, 101, 99, 116, 117, 114, 101]⟩ : ByteArray).size = 12 := by decide
  have c2 : (⟨#[111, 115]⟩ : ByteArray).size = 2 := by decide
  have c3 : (⟨#[118, 97, 114, 105, 97, 110, 116]⟩ : ByteArray).size = 7 := by decide
  have c4 : (⟨#[100, 105, 103, 101, 115, 116]⟩ : ByteArray).size = 6 := by decide
  have c5 : (⟨#[109, 101, 100, 105, 97, 84, 121, 112, 101]⟩ : ByteArray).size = 9 := by decide
  have c6 : (⟨#[112, 108, 97, 116, 102, 111, 114, 109]⟩ : ByteArray).size = 8 := by decide
  have c7 : (⟨#[115, 105, 122, 101]⟩ : ByteArray).size = 4 := by decide
  have c8 : (⟨#[]⟩ : ByteArray).size = 0 := by decide
  unfold descVal platVal txtV numV
  cases eB a <;> cases eB v <;> simp [V.bulk, V.bulks, e1, c1, c2, c3, c4, c5, c6, c7, c8] <;> omega
theorem valV_bulk {m n : ByteArray} {z : Int} {a o v : ByteArray} (lm : m.size ≤ 1000) (ln : n.size ≤ 1000) (la : a.size ≤ 1000) (lo : o.size ≤ 1000) (lv : v.size ≤ 1000) : (valV m n z a o v).bulk ≤ 4194304 := by
  unfold valV
  by_cases hc : checkA m n z a o v = 0
  · rw [if_pos hc]
    exact descVal_bulk lm ln la lo lv (by have := (good_split hc).1; omega)
  · rw [if_neg hc]; decide
theorem checkA_pos (m n : ByteArray) (z : Int) (a o v : ByteArray) : 0 ≤ checkA m n z a o v := by
  unfold checkA checkV
  split
  · omega
  · split
    · omega
    · split <;> omega
theorem cells655 {w : World} {b0 b1 b2 : Nat} {t0 t1 t2 : TypeId} {x0 x1 x2 x3 x4 x5 x6 x7 x8 x9 x10 x11 x12 x13 x14 x15 : Value} (h0 : w.heap[b0]? = some (.cells #[x0, x1, x2, x3, x4, x5] t0 (0, 0))) (h1 : w.heap[b1]? = some (.cells #[x6, x7, x8, x9, x10] t1 (0, 0))) (h2 : w.heap[b2]? = some (.cells #[x11, x12, x13, x14, x15] t2 (0, 0))) :
    w.cell? ⟨b0, 0, none⟩ = some x0 ∧ w.cell? ⟨b0, 1, none⟩ = some x1 ∧ w.cell? ⟨b0, 2, none⟩ = some x2 ∧ w.cell? ⟨b0, 3, none⟩ = some x3 ∧ w.cell? ⟨b0, 4, none⟩ = some x4 ∧ w.cell? ⟨b0, 5, none⟩ = some x5 ∧ w.cell? ⟨b1, 0, none⟩ = some x6 ∧ w.cell? ⟨b1, 1, none⟩ = some x7 ∧ w.cell? ⟨b1, 2, none⟩ = some x8 ∧ w.cell? ⟨b1, 3, none⟩ = some x9 ∧ w.cell? ⟨b1, 4, none⟩ = some x10 ∧ w.cell? ⟨b2, 0, none⟩ = some x11 ∧ w.cell? ⟨b2, 1, none⟩ = some x12 ∧ w.cell? ⟨b2, 2, none⟩ = some x13 ∧ w.cell? ⟨b2, 3, none⟩ = some x14 ∧ w.cell? ⟨b2, 4, none⟩ = some x15 :=
  ⟨by rw [cell_of_row w b0 0 _ _ (0, 0) h0]; rfl, by rw [cell_of_row w b0 1 _ _ (0, 0) h0]; rfl, by rw [cell_of_row w b0 2 _ _ (0, 0) h0]; rfl, by rw [cell_of_row w b0 3 _ _ (0, 0) h0]; rfl, by rw [cell_of_row w b0 4 _ _ (0, 0) h0]; rfl, by rw [cell_of_row w b0 5 _ _ (0, 0) h0]; rfl, by rw [cell_of_row w b1 0 _ _ (0, 0) h1]; rfl, by rw [cell_of_row w b1 1 _ _ (0, 0) h1]; rfl, by rw [cell_of_row w b1 2 _ _ (0, 0) h1]; rfl, by rw [cell_of_row w b1 3 _ _ (0, 0) h1]; rfl, by rw [cell_of_row w b1 4 _ _ (0, 0) h1]; rfl, by rw [cell_of_row w b2 0 _ _ (0, 0) h2]; rfl, by rw [cell_of_row w b2 1 _ _ (0, 0) h2]; rfl, by rw [cell_of_row w b2 2 _ _ (0, 0) h2]; rfl, by rw [cell_of_row w b2 3 _ _ (0, 0) h2]; rfl, by rw [cell_of_row w b2 4 _ _ (0, 0) h2]; rfl⟩
set_option maxHeartbeats 8000000 in
theorem checks_any (m n : ByteArray) (z : Int) (a o v : ByteArray) (w : World) (hg : Glob w) :
    Calls Tryz.prog 6 #[.agg #[.string m, .string n, .int .i64 z, .string a, .string o, .string v]] w fun e w' => e = .returned (.bool true) ∧ Below w.heap.size w w' := by
  have HG := Lib.hid hg
  clear hg
  by_cases hm : 400 < m.size
  · have hm' : (400 : Int) < (m.size : Int) := by omega
    go_enter Tryz.func6, Tryz.ntmps6
    go_wp2_with fail
    refine (alive23 _ (HG.out.below (by ((repeat (first | with_reducible refine Below.setCell ?_ (by first | omega | (simp; done) | (simp; omega)) _ | with_reducible refine Below.drew ?_ | with_reducible refine Below.alloc ?_ (by first | omega | (simp; done) | (simp; omega)) _)); exact Below.refl _ _)))).mono ?_
    rintro e w1 ⟨rfl, hb1⟩
    have HB1 := Lib.hid hb1
    have sz1 := hb1.size
    (try simp at sz1)
    have B1x := Lib.hid (show w1.heap[w.heap.size]? = some (.cells #[.string m, .string n, .int .i64 z, .string a, .string o, .string v] 62 (0, 0)) from (hb1.block (w.heap.size) (by first | omega | (simp; done) | (simp; omega))).trans (by (try dsimp only [World.drew]); (repeat (first | rw [alloc_before (by first | omega | (simp; done) | (simp; omega))] | rw [Below.heap_setCell _ _ _ _ (by first | (simp only; omega) | (simp; omega))])); exact alloc_at (by simp)))
    have c1x := fun o => cell_of_row w1 (w.heap.size) o _ 62 (0, 0) B1x.out
    have f1x : ∀ o, w1.frozen? ⟨w.heap.size, o, none⟩ = false := fun o => by simp [World.frozen?, B1x.out]
    have l1x : w.heap.size < w1.heap.size := by first | omega | (simp; omega)
    clear hb1
    go_wp2
    go_ret
    exact ⟨rfl, (by ((repeat (first | with_reducible refine Below.setCell ?_ (by first | omega | (simp; done) | (simp; omega)) _ | with_reducible refine Below.drew ?_ | with_reducible refine Below.alloc ?_ (by first | omega | (simp; done) | (simp; omega)) _)); refine Below.trans ?_ (HB1.out.mono (by first | omega | (simp; done) | (simp; omega))); (repeat (first | with_reducible refine Below.setCell ?_ (by first | omega | (simp; done) | (simp; omega)) _ | with_reducible refine Below.drew ?_ | with_reducible refine Below.alloc ?_ (by first | omega | (simp; done) | (simp; omega)) _)); exact Below.refl _ _))⟩
  have hm' : ¬ (400 : Int) < (m.size : Int) := by omega
  by_cases hn : 200 < n.size
  · have hn' : (200 : Int) < (n.size : Int) := by omega
    go_enter Tryz.func6, Tryz.ntmps6
    go_wp2_with fail
    refine (alive23 _ (HG.out.below (by ((repeat (first | with_reducible refine Below.setCell ?_ (by first | omega | (simp; done) | (simp; omega)) _ | with_reducible refine Below.drew ?_ | with_reducible refine Below.alloc ?_ (by first | omega | (simp; done) | (simp; omega)) _)); exact Below.refl _ _)))).mono ?_
    rintro e w1 ⟨rfl, hb1⟩
    have HB1 := Lib.hid hb1
    have sz1 := hb1.size
    (try simp at sz1)
    have B1x := Lib.hid (show w1.heap[w.heap.size]? = some (.cells #[.string m, .string n, .int .i64 z, .string a, .string o, .string v] 62 (0, 0)) from (hb1.block (w.heap.size) (by first | omega | (simp; done) | (simp; omega))).trans (by (try dsimp only [World.drew]); (repeat (first | rw [alloc_before (by first | omega | (simp; done) | (simp; omega))] | rw [Below.heap_setCell _ _ _ _ (by first | (simp only; omega) | (simp; omega))])); exact alloc_at (by simp)))
    have c1x := fun o => cell_of_row w1 (w.heap.size) o _ 62 (0, 0) B1x.out
    have f1x : ∀ o, w1.frozen? ⟨w.heap.size, o, none⟩ = false := fun o => by simp [World.frozen?, B1x.out]
    have l1x : w.heap.size < w1.heap.size := by first | omega | (simp; omega)
    clear hb1
    go_wp2
    go_ret
    exact ⟨rfl, (by ((repeat (first | with_reducible refine Below.setCell ?_ (by first | omega | (simp; done) | (simp; omega)) _ | with_reducible refine Below.drew ?_ | with_reducible refine Below.alloc ?_ (by first | omega | (simp; done) | (simp; omega)) _)); refine Below.trans ?_ (HB1.out.mono (by first | omega | (simp; done) | (simp; omega))); (repeat (first | with_reducible refine Below.setCell ?_ (by first | omega | (simp; done) | (simp; omega)) _ | with_reducible refine Below.drew ?_ | with_reducible refine Below.alloc ?_ (by first | omega | (simp; done) | (simp; omega)) _)); exact Below.refl _ _))⟩
  have hn' : ¬ (200 : Int) < (n.size : Int) := by omega
  by_cases ha : 200 < a.size
  · have ha' : (200 : Int) < (a.size : Int) := by omega
    go_enter Tryz.func6, Tryz.ntmps6
    go_wp2_with fail
    refine (alive23 _ (HG.out.below (by ((repeat (first | with_reducible refine Below.setCell ?_ (by first | omega | (simp; done) | (simp; omega)) _ | with_reducible refine Below.drew ?_ | with_reducible refine Below.alloc ?_ (by first | omega | (simp; done) | (simp; omega)) _)); exact Below.refl _ _)))).mono ?_
    rintro e w1 ⟨rfl, hb1⟩
    have HB1 := Lib.hid hb1
    have sz1 := hb1.size
    (try simp at sz1)
    have B1x := Lib.hid (show w1.heap[w.heap.size]? = some (.cells #[.string m, .string n, .int .i64 z, .string a, .string o, .string v] 62 (0, 0)) from (hb1.block (w.heap.size) (by first | omega | (simp; done) | (simp; omega))).trans (by (try dsimp only [World.drew]); (repeat (first | rw [alloc_before (by first | omega | (simp; done) | (simp; omega))] | rw [Below.heap_setCell _ _ _ _ (by first | (simp only; omega) | (simp; omega))])); exact alloc_at (by simp)))
    have c1x := fun o => cell_of_row w1 (w.heap.size) o _ 62 (0, 0) B1x.out
    have f1x : ∀ o, w1.frozen? ⟨w.heap.size, o, none⟩ = false := fun o => by simp [World.frozen?, B1x.out]
    have l1x : w.heap.size < w1.heap.size := by first | omega | (simp; omega)
    clear hb1
    go_wp2
    go_ret
    exact ⟨rfl, (by ((repeat (first | with_reducible refine Below.setCell ?_ (by first | omega | (simp; done) | (simp; omega)) _ | with_reducible refine Below.drew ?_ | with_reducible refine Below.alloc ?_ (by first | omega | (simp; done) | (simp; omega)) _)); refine Below.trans ?_ (HB1.out.mono (by first | omega | (simp; done) | (simp; omega))); (repeat (first | with_reducible refine Below.setCell ?_ (by first | omega | (simp; done) | (simp; omega)) _ | with_reducible refine Below.drew ?_ | with_reducible refine Below.alloc ?_ (by first | omega | (simp; done) | (simp; omega)) _)); exact Below.refl _ _))⟩
  have ha' : ¬ (200 : Int) < (a.size : Int) := by omega
  by_cases ho : 200 < o.size
  · have ho' : (200 : Int) < (o.size : Int) := by omega
    go_enter Tryz.func6, Tryz.ntmps6
    go_wp2_with fail
    refine (alive23 _ (HG.out.below (by ((repeat (first | with_reducible refine Below.setCell ?_ (by first | omega | (simp; done) | (simp; omega)) _ | with_reducible refine Below.drew ?_ | with_reducible refine Below.alloc ?_ (by first | omega | (simp; done) | (simp; omega)) _)); exact Below.refl _ _)))).mono ?_
    rintro e w1 ⟨rfl, hb1⟩
    have HB1 := Lib.hid hb1
    have sz1 := hb1.size
    (try simp at sz1)
    have B1x := Lib.hid (show w1.heap[w.heap.size]? = some (.cells #[.string m, .string n, .int .i64 z, .string a, .string o, .string v] 62 (0, 0)) from (hb1.block (w.heap.size) (by first | omega | (simp; done) | (simp; omega))).trans (by (try dsimp only [World.drew]); (repeat (first | rw [alloc_before (by first | omega | (simp; done) | (simp; omega))] | rw [Below.heap_setCell _ _ _ _ (by first | (simp only; omega) | (simp; omega))])); exact alloc_at (by simp)))
    have c1x := fun o => cell_of_row w1 (w.heap.size) o _ 62 (0, 0) B1x.out
    have f1x : ∀ o, w1.frozen? ⟨w.heap.size, o, none⟩ = false := fun o => by simp [World.frozen?, B1x.out]
    have l1x : w.heap.size < w1.heap.size := by first | omega | (simp; omega)
    clear hb1
    go_wp2
    go_ret
    exact ⟨rfl, (by ((repeat (first | with_reducible refine Below.setCell ?_ (by first | omega | (simp; done) | (simp; omega)) _ | with_reducible refine Below.drew ?_ | with_reducible refine Below.alloc ?_ (by first | omega | (simp; done) | (simp; omega)) _)); refine Below.trans ?_ (HB1.out.mono (by first | omega | (simp; done) | (simp; omega))); (repeat (first | with_reducible refine Below.setCell ?_ (by first | omega | (simp; done) | (simp; omega)) _ | with_reducible refine Below.drew ?_ | with_reducible refine Below.alloc ?_ (by first | omega | (simp; done) | (simp; omega)) _)); exact Below.refl _ _))⟩
  have ho' : ¬ (200 : Int) < (o.size : Int) := by omega
  by_cases hv : 200 < v.size
  · have hv' : (200 : Int) < (v.size : Int) := by omega
    go_enter Tryz.func6, Tryz.ntmps6
    go_wp2_with fail
    refine (alive23 _ (HG.out.below (by ((repeat (first | with_reducible refine Below.setCell ?_ (by first | omega | (simp; done) | (simp; omega)) _ | with_reducible refine Below.drew ?_ | with_reducible refine Below.alloc ?_ (by first | omega | (simp; done) | (simp; omega)) _)); exact Below.refl _ _)))).mono ?_
    rintro e w1 ⟨rfl, hb1⟩
    have HB1 := Lib.hid hb1
    have sz1 := hb1.size
    (try simp at sz1)
    have B1x := Lib.hid (show w1.heap[w.heap.size]? = some (.cells #[.string m, .string n, .int .i64 z, .string a, .string o, .string v] 62 (0, 0)) from (hb1.block (w.heap.size) (by first | omega | (simp; done) | (simp; omega))).trans (by (try dsimp only [World.drew]); (repeat (first | rw [alloc_before (by first | omega | (simp; done) | (simp; omega))] | rw [Below.heap_setCell _ _ _ _ (by first | (simp only; omega) | (simp; omega))])); exact alloc_at (by simp)))
    have c1x := fun o => cell_of_row w1 (w.heap.size) o _ 62 (0, 0) B1x.out
    have f1x : ∀ o, w1.frozen? ⟨w.heap.size, o, none⟩ = false := fun o => by simp [World.frozen?, B1x.out]
    have l1x : w.heap.size < w1.heap.size := by first | omega | (simp; omega)
    clear hb1
    go_wp2
    go_ret
    exact ⟨rfl, (by ((repeat (first | with_reducible refine Below.setCell ?_ (by first | omega | (simp; done) | (simp; omega)) _ | with_reducible refine Below.drew ?_ | with_reducible refine Below.alloc ?_ (by first | omega | (simp; done) | (simp; omega)) _)); refine Below.trans ?_ (HB1.out.mono (by first | omega | (simp; done) | (simp; omega))); (repeat (first | with_reducible refine Below.setCell ?_ (by first | omega | (simp; done) | (simp; omega)) _ | with_reducible refine Below.drew ?_ | with_reducible refine Below.alloc ?_ (by first | omega | (simp; done) | (simp; omega)) _)); exact Below.refl _ _))⟩
  have hv' : ¬ (200 : Int) < (v.size : Int) := by omega
  have HVA := Lib.hid (fun W hW => value_any m n z a o v W hW (by omega) (by omega) (by omega) (by omega) (by omega))
  have HRV := Lib.hid (fun W => rvalue_any m n z a o v W (by omega) (by omega) (by omega) (by omega) (by omega))
  have HCA := Lib.hid (fun W hW => check_any m n z a o v W hW (by omega) (by omega) (by omega) (by omega) (by omega))
  have HBU := Lib.hid (valV_bulk (m := m) (n := n) (z := z) (a := a) (o := o) (v := v) (by omega) (by omega) (by omega) (by omega) (by omega))
  have HC0 := Lib.hid (checkA_pos m n z a o v)
  generalize checkA m n z a o v = c at HVA HRV HCA HC0
  generalize valV m n z a o v = X at HVA HRV HBU
  unfold ValRes at HVA
  unfold RefRes at HRV
  go_enter Tryz.func6, Tryz.ntmps6
  go_wp2_with fail
  refine (alive23 _ (HG.out.below (by ((repeat (first | with_reducible refine Below.setCell ?_ (by first | omega | (simp; done) | (simp; omega)) _ | with_reducible refine Below.drew ?_ | with_reducible refine Below.alloc ?_ (by first | omega | (simp; done) | (simp; omega)) _)); exact Below.refl _ _)))).mono ?_
  rintro e w1 ⟨rfl, hb1⟩
  have HB1 := Lib.hid hb1
  have sz1 := hb1.size
  (try simp at sz1)
  have B1x := Lib.hid (show w1.heap[w.heap.size]? = some (.cells #[.string m, .string n, .int .i64 z, .string a, .string o, .string v] 62 (0, 0)) from (hb1.block (w.heap.size) (by first | omega | (simp; done) | (simp; omega))).trans (by (try dsimp only [World.drew]); (repeat (first | rw [alloc_before (by first | omega | (simp; done) | (simp; omega))] | rw [Below.heap_setCell _ _ _ _ (by first | (simp only; omega) | (simp; omega))])); exact alloc_at (by simp)))
  have c1x := fun o => cell_of_row w1 (w.heap.size) o _ 62 (0, 0) B1x.out
  have f1x : ∀ o, w1.frozen? ⟨w.heap.size, o, none⟩ = false := fun o => by simp [World.frozen?, B1x.out]
  have l1x : w.heap.size < w1.heap.size := by first | omega | (simp; omega)
  clear hb1
  go_wp2_with fail
  refine (HVA.out _ (HG.out.below (by ((repeat (first | with_reducible refine Below.setCell ?_ (by first | omega | (simp; done) | (simp; omega)) _ | with_reducible refine Below.drew ?_ | with_reducible refine Below.alloc ?_ (by first | omega | (simp; done) | (simp; omega)) _)); refine Below.trans ?_ (HB1.out.mono (by first | omega | (simp; done) | (simp; omega))); (repeat (first | with_reducible refine Below.setCell ?_ (by first | omega | (simp; done) | (simp; omega)) _ | with_reducible refine Below.drew ?_ | with_reducible refine Below.alloc ?_ (by first | omega | (simp; done) | (simp; omega)) _)); exact Below.refl _ _)))).mono ?_
  rintro e w2 ⟨cs2, rfl, hrep2, hb2⟩
  have HR2 := Lib.hid hrep2
  obtain ⟨A2, ca2, B2, cb2, rfl, -⟩ := hrep2.open
  clear hrep2
  have HB2 := Lib.hid hb2
  have sz2 := hb2.size
  (try simp at sz2)
  have B2x := Lib.hid (show w2.heap[w.heap.size]? = some (.cells #[.string m, .string n, .int .i64 z, .string a, .string o, .string v] 62 (0, 0)) from (hb2.block (w.heap.size) (by first | omega | (simp; done) | (simp; omega))).trans (by (try dsimp only [World.drew]); (repeat (first | rw [alloc_before (by first | omega | (simp; done) | (simp; omega))] | rw [Below.heap_setCell _ _ _ _ (by first | (simp only; omega) | (simp; omega))])); exact B1x.out))
  have c2x := fun o => cell_of_row w2 (w.heap.size) o _ 62 (0, 0) B2x.out
  have f2x : ∀ o, w2.frozen? ⟨w.heap.size, o, none⟩ = false := fun o => by simp [World.frozen?, B2x.out]
  have l2x : w.heap.size < w2.heap.size := by first | omega | (simp; omega)
  clear hb2 c1x f1x
  go_wp2_with (go_at_call 26; refine (doc_desc _ _ _ _ _ _ _).mono ?_; rintro e w3 ⟨rfl, hb3⟩)
  have HB3 := Lib.hid hb3
  have sz3 := hb3.size
  (try simp at sz3)
  have B3x := Lib.hid (show w3.heap[w.heap.size]? = some (.cells #[.string m, .string n, .int .i64 z, .string a, .string o, .string v] 62 (0, 0)) from (hb3.block (w.heap.size) (by first | omega | (simp; done) | (simp; omega))).trans (by (try dsimp only [World.drew]); (repeat (first | rw [alloc_before (by first | omega | (simp; done) | (simp; omega))] | rw [Below.heap_setCell _ _ _ _ (by first | (simp only; omega) | (simp; omega))])); exact B2x.out))
  have B3t3 := Lib.hid (show w3.heap[w2.heap.size]? = some (.cells #[.int .i64 X.kind, .bool X.tr, .string X.text, .slice A2 X.list.length ca2, .slice B2 X.names.length cb2] 27 (0, 0)) from (hb3.block (w2.heap.size) (by first | omega | (simp; done) | (simp; omega))).trans (by (try dsimp only [World.drew]); (repeat (first | rw [alloc_before (by first | omega | (simp; done) | (simp; omega))] | rw [Below.heap_setCell _ _ _ _ (by first | (simp only; omega) | (simp; omega))])); exact alloc_at (by simp)))
  have c3x := fun o => cell_of_row w3 (w.heap.size) o _ 62 (0, 0) B3x.out
  have f3x : ∀ o, w3.frozen? ⟨w.heap.size, o, none⟩ = false := fun o => by simp [World.frozen?, B3x.out]
  have l3x : w.heap.size < w3.heap.size := by first | omega | (simp; omega)
  have c3t3 := fun o => cell_of_row w3 (w2.heap.size) o _ 27 (0, 0) B3t3.out
  have f3t3 : ∀ o, w3.frozen? ⟨w2.heap.size, o, none⟩ = false := fun o => by simp [World.frozen?, B3t3.out]
  have l3t3 : w2.heap.size < w3.heap.size := by first | omega | (simp; omega)
  have nxt3 : ¬ w.heap.size = w2.heap.size := by omega
  have nt3x : ¬ w2.heap.size = w.heap.size := by omega
  clear hb3 c2x f2x
  go_wp2_with fail
  refine (HRV.out _).mono ?_
  rintro e w4 ⟨cs4, rfl, hrep4, hb4⟩
  have HR4 := Lib.hid hrep4
  obtain ⟨A4, ca4, B4, cb4, rfl, -⟩ := hrep4.open
  clear hrep4
  have HB4 := Lib.hid hb4
  have sz4 := hb4.size
  (try simp at sz4)
  have B4x := Lib.hid (show w4.heap[w.heap.size]? = some (.cells #[.string m, .string n, .int .i64 z, .string a, .string o, .string v] 62 (0, 0)) from (hb4.block (w.heap.size) (by first | omega | (simp; done) | (simp; omega))).trans (by (try dsimp only [World.drew]); (repeat (first | rw [alloc_before (by first | omega | (simp; done) | (simp; omega))] | rw [Below.heap_setCell _ _ _ _ (by first | (simp only; omega) | (simp; omega))])); exact B3x.out))
  have B4t3 := Lib.hid (show w4.heap[w2.heap.size]? = some (.cells #[.int .i64 X.kind, .bool X.tr, .string X.text, .slice A2 X.list.length ca2, .slice B2 X.names.length cb2] 27 (0, 0)) from (hb4.block (w2.heap.size) (by first | omega | (simp; done) | (simp; omega))).trans (by (try dsimp only [World.drew]); (repeat (first | rw [alloc_before (by first | omega | (simp; done) | (simp; omega))] | rw [Below.heap_setCell _ _ _ _ (by first | (simp only; omega) | (simp; omega))])); exact B3t3.out))
  have c4x := fun o => cell_of_row w4 (w.heap.size) o _ 62 (0, 0) B4x.out
  have f4x : ∀ o, w4.frozen? ⟨w.heap.size, o, none⟩ = false := fun o => by simp [World.frozen?, B4x.out]
  have l4x : w.heap.size < w4.heap.size := by first | omega | (simp; omega)
  have c4t3 := fun o => cell_of_row w4 (w2.heap.size) o _ 27 (0, 0) B4t3.out
  have f4t3 : ∀ o, w4.frozen? ⟨w2.heap.size, o, none⟩ = false := fun o => by simp [World.frozen?, B4t3.out]
  have l4t3 : w2.heap.size < w4.heap.size := by first | omega | (simp; omega)
  clear hb4 c3x f3x c3t3 f3t3
  go_upto_region 7 with (fail)
  rename_i Kf hKf
  generalize hW5 : (w4).alloc (.cells #[.int .i64 X.kind, .bool X.tr, .string X.text, .slice A4 X.list.length ca4, .slice B4 X.names.length cb4] 43) = W5
  have HB5 := Lib.hid (show Below w4.heap.size w4 W5 by rw [← hW5]; (repeat (first | with_reducible refine Below.setCell ?_ (by first | omega | (simp; done) | (simp; omega)) _ | with_reducible refine Below.drew ?_ | with_reducible refine Below.alloc ?_ (by first | omega | (simp; done) | (simp; omega)) _)); exact Below.refl _ _)
  have sz5 : W5.heap.size = w4.heap.size + 1 := by rw [← hW5]; simp
  have B5x := Lib.hid (show W5.heap[w.heap.size]? = some (.cells #[.string m, .string n, .int .i64 z, .string a, .string o, .string v] 62 (0, 0)) from by rw [← hW5]; (try dsimp only [World.drew]); (repeat (first | rw [alloc_before (by first | omega | (simp; done) | (simp; omega))] | rw [Below.heap_setCell _ _ _ _ (by first | (simp only; omega) | (simp; omega))])); exact B4x.out)
  have B5t3 := Lib.hid (show W5.heap[w2.heap.size]? = some (.cells #[.int .i64 X.kind, .bool X.tr, .string X.text, .slice A2 X.list.length ca2, .slice B2 X.names.length cb2] 27 (0, 0)) from by rw [← hW5]; (try dsimp only [World.drew]); (repeat (first | rw [alloc_before (by first | omega | (simp; done) | (simp; omega))] | rw [Below.heap_setCell _ _ _ _ (by first | (simp only; omega) | (simp; omega))])); exact B4t3.out)
  have B5t5 := Lib.hid (show W5.heap[w4.heap.size]? = some (.cells #[.int .i64 X.kind, .bool X.tr, .string X.text, .slice A4 X.list.length ca4, .slice B4 X.names.length cb4] 43 (0, 0)) from by rw [← hW5]; (try dsimp only [World.drew]); (repeat (first | rw [alloc_before (by first | omega | (simp; done) | (simp; omega))] | rw [Below.heap_setCell _ _ _ _ (by first | (simp only; omega) | (simp; omega))])); exact alloc_at (by simp))
  have c5x := fun o => cell_of_row W5 (w.heap.size) o _ 62 (0, 0) B5x.out
  have f5x : ∀ o, W5.frozen? ⟨w.heap.size, o, none⟩ = false := fun o => by simp [World.frozen?, B5x.out]
  have l5x : w.heap.size < W5.heap.size := by first | omega | (simp; omega)
  have c5t3 := fun o => cell_of_row W5 (w2.heap.size) o _ 27 (0, 0) B5t3.out
  have f5t3 : ∀ o, W5.frozen? ⟨w2.heap.size, o, none⟩ = false := fun o => by simp [World.frozen?, B5t3.out]
  have l5t3 : w2.heap.size < W5.heap.size := by first | omega | (simp; omega)
  have c5t5 := fun o => cell_of_row W5 (w4.heap.size) o _ 43 (0, 0) B5t5.out
  have f5t5 : ∀ o, W5.frozen? ⟨w4.heap.size, o, none⟩ = false := fun o => by simp [World.frozen?, B5t5.out]
  have l5t5 : w4.heap.size < W5.heap.size := by first | omega | (simp; omega)
  have nxt5 : ¬ w.heap.size = w4.heap.size := by omega
  have nt5x : ¬ w4.heap.size = w.heap.size := by omega
  have nt3t5 : ¬ w2.heap.size = w4.heap.size := by omega
  have nt5t3 : ¬ w4.heap.size = w2.heap.size := by omega
  clear hW5 c4x f4x c4t3 f4t3
  have hx2 := Lib.hid (show Below w2.heap.size w2 W5 by ((repeat (first | with_reducible refine Below.setCell ?_ (by first | omega | (simp; done) | (simp; omega)) _ | with_reducible refine Below.drew ?_ | with_reducible refine Below.alloc ?_ (by first | omega | (simp; done) | (simp; omega)) _)); refine Below.trans ?_ (HB5.out.mono (by first | omega | (simp; done) | (simp; omega))); (repeat (first | with_reducible refine Below.setCell ?_ (by first | omega | (simp; done) | (simp; omega)) _ | with_reducible refine Below.drew ?_ | with_reducible refine Below.alloc ?_ (by first | omega | (simp; done) | (simp; omega)) _)); refine Below.trans ?_ (HB4.out.mono (by first | omega | (simp; done) | (simp; omega))); (repeat (first | with_reducible refine Below.setCell ?_ (by first | omega | (simp; done) | (simp; omega)) _ | with_reducible refine Below.drew ?_ | with_reducible refine Below.alloc ?_ (by first | omega | (simp; done) | (simp; omega)) _)); refine Below.trans ?_ (HB3.out.mono (by first | omega | (simp; done) | (simp; omega))); (repeat (first | with_reducible refine Below.setCell ?_ (by first | omega | (simp; done) | (simp; omega)) _ | with_reducible refine Below.drew ?_ | with_reducible refine Below.alloc ?_ (by first | omega | (simp; done) | (simp; omega)) _)); exact Below.refl _ _))
  have hx4 := Lib.hid (show Below w4.heap.size w4 W5 by ((repeat (first | with_reducible refine Below.setCell ?_ (by first | omega | (simp; done) | (simp; omega)) _ | with_reducible refine Below.drew ?_ | with_reducible refine Below.alloc ?_ (by first | omega | (simp; done) | (simp; omega)) _)); refine Below.trans ?_ (HB5.out.mono (by first | omega | (simp; done) | (simp; omega))); (repeat (first | with_reducible refine Below.setCell ?_ (by first | omega | (simp; done) | (simp; omega)) _ | with_reducible refine Below.drew ?_ | with_reducible refine Below.alloc ?_ (by first | omega | (simp; done) | (simp; omega)) _)); exact Below.refl _ _))
  have hx0 := Lib.hid (show Below w.heap.size w W5 by ((repeat (first | with_reducible refine Below.setCell ?_ (by first | omega | (simp; done) | (simp; omega)) _ | with_reducible refine Below.drew ?_ | with_reducible refine Below.alloc ?_ (by first | omega | (simp; done) | (simp; omega)) _)); refine Below.trans ?_ (HB5.out.mono (by first | omega | (simp; done) | (simp; omega))); (repeat (first | with_reducible refine Below.setCell ?_ (by first | omega | (simp; done) | (simp; omega)) _ | with_reducible refine Below.drew ?_ | with_reducible refine Below.alloc ?_ (by first | omega | (simp; done) | (simp; omega)) _)); refine Below.trans ?_ (HB4.out.mono (by first | omega | (simp; done) | (simp; omega))); (repeat (first | with_reducible refine Below.setCell ?_ (by first | omega | (simp; done) | (simp; omega)) _ | with_reducible refine Below.drew ?_ | with_reducible refine Below.alloc ?_ (by first | omega | (simp; done) | (simp; omega)) _)); refine Below.trans ?_ (HB3.out.mono (by first | omega | (simp; done) | (simp; omega))); (repeat (first | with_reducible refine Below.setCell ?_ (by first | omega | (simp; done) | (simp; omega)) _ | with_reducible refine Below.drew ?_ | with_reducible refine Below.alloc ?_ (by first | omega | (simp; done) | (simp; omega)) _)); refine Below.trans ?_ (HB2.out.mono (by first | omega | (simp; done) | (simp; omega))); (repeat (first | with_reducible refine Below.setCell ?_ (by first | omega | (simp; done) | (simp; omega)) _ | with_reducible refine Below.drew ?_ | with_reducible refine Below.alloc ?_ (by first | omega | (simp; done) | (simp; omega)) _)); refine Below.trans ?_ (HB1.out.mono (by first | omega | (simp; done) | (simp; omega))); (repeat (first | with_reducible refine Below.setCell ?_ (by first | omega | (simp; done) | (simp; omega)) _ | with_reducible refine Below.drew ?_ | with_reducible refine Below.alloc ?_ (by first | omega | (simp; done) | (simp; omega)) _)); exact Below.refl _ _))
  go_region_held3 (fun w' => w'.cell? ⟨w.heap.size, 0, none⟩ = some (.string m) ∧ w'.cell? ⟨w.heap.size, 1, none⟩ = some (.string n) ∧ w'.cell? ⟨w.heap.size, 2, none⟩ = some (.int .i64 z) ∧ w'.cell? ⟨w.heap.size, 3, none⟩ = some (.string a) ∧ w'.cell? ⟨w.heap.size, 4, none⟩ = some (.string o) ∧ w'.cell? ⟨w.heap.size, 5, none⟩ = some (.string v) ∧ w'.cell? ⟨w2.heap.size, 0, none⟩ = some (.int .i64 X.kind) ∧ w'.cell? ⟨w2.heap.size, 1, none⟩ = some (.bool X.tr) ∧ w'.cell? ⟨w2.heap.size, 2, none⟩ = some (.string X.text) ∧ w'.cell? ⟨w2.heap.size, 3, none⟩ = some (.slice A2 X.list.length ca2) ∧ w'.cell? ⟨w2.heap.size, 4, none⟩ = some (.slice B2 X.names.length cb2) ∧ w'.cell? ⟨w4.heap.size, 0, none⟩ = some (.int .i64 X.kind) ∧ w'.cell? ⟨w4.heap.size, 1, none⟩ = some (.bool X.tr) ∧ w'.cell? ⟨w4.heap.size, 2, none⟩ = some (.string X.text) ∧ w'.cell? ⟨w4.heap.size, 3, none⟩ = some (.slice A4 X.list.length ca4) ∧ w'.cell? ⟨w4.heap.size, 4, none⟩ = some (.slice B4 X.names.length cb4))
    ((first | exact cells655 B5x.out B5t3.out B5t5.out | exact cells655 ((kA _ l5x).trans B5x.out) ((kA _ l5t3).trans B5t3.out) ((kA _ l5t5).trans B5t5.out) | exact cells655 ((kB _ l5x).trans B5x.out) ((kB _ l5t3).trans B5t3.out) ((kB _ l5t5).trans B5t5.out) | exact cells655 ((kC _ l5x).trans B5x.out) ((kC _ l5t3).trans B5t3.out) ((kC _ l5t5).trans B5t5.out)))
    ((first | (go_at_call 36; refine (HCA.out _ (HG.out.below (hx0.out.trans ((Below.refl _ _).drew)))).mono ?_; rintro e wA ⟨rfl, bwA⟩; have zwA : W5.heap.size ≤ wA.heap.size := bwA.size; have b0wA : Below W5.heap.size W5 wA := ⟨bwA.os, bwA.tape, bwA.output, zwA, fun b hb => bwA.block b hb⟩; have kA : ∀ b, b < W5.heap.size → wA.heap[b]? = W5.heap[b]? := fun b hb => b0wA.block b hb; clear bwA) | (go_at_call 35; refine (num_any c HC0.out _).mono ?_; rintro e wq ⟨rfl, rfl⟩) | (go_at_call 17; refine (document_any X [.int .i64 X.kind, .bool X.tr, .string X.text, .slice A2 X.list.length ca2, .slice B2 X.names.length cb2] _ (fun _ => True) HBU.out (HR2.out.agree fun b _ hlt => ⟨(kA b (Nat.lt_of_lt_of_le hlt hx2.out.size)).trans (hx2.out.block b hlt), trivial⟩)).mono ?_; rintro e wB ⟨cs5, rfl, hr5, bwB⟩; have zwB : W5.heap.size ≤ wB.heap.size := Nat.le_trans zwA bwB.size; have b0wB : Below W5.heap.size W5 wB := b0wA.trans (bwB.mono zwA); have kB : ∀ b, b < W5.heap.size → wB.heap[b]? = W5.heap[b]? := fun b hb => b0wB.block b hb; clear bwB) | (go_at_call 21; refine (same_any X cs5 [.int .i64 X.kind, .bool X.tr, .string X.text, .slice A4 X.list.length ca4, .slice B4 X.names.length cb4] _ _ (fun _ => True) HBU.out hr5 (HR4.out.agree fun b _ hlt => ⟨(kB b (Nat.lt_of_lt_of_le hlt hx4.out.size)).trans (hx4.out.block b hlt), trivial⟩)).mono ?_; rintro e wC ⟨rfl, bwC⟩; have zwC : W5.heap.size ≤ wC.heap.size := Nat.le_trans zwB bwC.size; have b0wC : Below W5.heap.size W5 wC := b0wB.trans (bwC.mono zwB); have kC : ∀ b, b < W5.heap.size → wC.heap[b]? = W5.heap[b]? := fun b hb => b0wC.block b hb; clear bwC)))
  refine hKf _ _ ?_
  go_wp2
  go_ret
  exact ⟨rfl, hx0.out.trans (b0wC.mono hx0.out.size)⟩
end Go.Proofs.YtoimjnmhinfbkaaGreatDoor
