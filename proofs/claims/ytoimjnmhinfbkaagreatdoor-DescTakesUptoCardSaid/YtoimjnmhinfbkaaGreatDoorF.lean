import Derived.Test.YtoimjnmhinfbkaaGreatDoorE
namespace Go.Proofs.YtoimjnmhinfbkaaGreatDoor
open Go.RowKit
set_option maxRecDepth 100000

def V.zero : V := .mk 0 false ⟨#[]⟩ [] []

theorem V.zero_rep (w : World) (S : Nat → Prop) : V.zero.Rep w S [.int .i64 0, .bool false, .string ⟨#[]⟩, .slice none 0 0, .slice none 0 0] :=
  ⟨none, 0, none, 0, rfl, Nat.le_refl _, Nat.le_refl _, .inl rfl, .inl rfl⟩

def V.get (v : V) (name : ByteArray) : Option V := if v.place name < 0 then none else v.list[(v.place name).toNat]?

theorem V.place_lt {v : V} {name : ByteArray} (h : ¬ v.place name < 0) : v.kind = 5 ∧ (v.place name).toNat < v.list.length := by
  unfold V.place at h ⊢
  split at h
  · omega
  · rename_i h2
    rw [if_neg h2]
    exact ⟨by omega, by omega⟩

theorem V.Rep.put {v : V} {w : World} {S : Nat → Prop} {cs : List Value} (h : v.Rep w S cs) (b o : Nat) (d : List Value) {S' : Nat → Prop} (hb : ∀ x, S x → x < w.heap.size → x ≠ b ∧ S' x) : v.Rep (w.setCells b o d) S' cs :=
  h.agree fun x hx hlt => ⟨setCells_block b d o w x (hb x hx hlt).1, (hb x hx hlt).2⟩

set_option maxHeartbeats 800000 in
theorem get_any (v : V) (cs : List Value) (name : ByteArray) (w : World) (S : Nat → Prop) (hv : v.Rep w S cs) (hb : v.bulk ≤ 4194304) :
    Calls Tryz.prog 122 #[.agg cs.toArray, .string name] w
      fun e w' => ∃ cs', e = .returned (.tuple #[.agg cs'.toArray, .bool (v.get name).isSome]) ∧ ((v.get name).getD V.zero).Rep w' (fun b => w.heap.size ≤ b ∧ b < w'.heap.size) cs' ∧ Below w.heap.size w w' := by
  obtain ⟨k, t, x, l, ns⟩ := v
  obtain ⟨A, ca, B, cb, rfl, hca, hcb, hS, hl⟩ := hv
  have hnl : ns.length ≤ 4194304 ∧ l.length ≤ 4194304 ∧ ∀ v ∈ l, v.bulk ≤ 4194304 := by
    simp only [V.bulk] at hb
    have := names_length ns
    have := V.bulks_length l
    exact ⟨by omega, by omega, fun v hv => by have := V.bulks_mem hv; omega⟩
  obtain ⟨hn1, hn2, hn3⟩ := hnl
  have HN := Lib.hid hn3
  have HL := Lib.hid hl
  have HS := Lib.hid hS
  clear hn3 hl hS hb
  by_cases hp : (V.mk k t x l ns).place name < 0
  · have hg : (V.mk k t x l ns).get name = none := by rw [V.get, if_pos hp]
    generalize hi : (V.mk k t x l ns).place name = i at hp
    have HI := Lib.hid hi
    have HG := Lib.hid hg
    clear hi hg
    go_enter Tryz.func122, Tryz.ntmps122
    go_wp2_with fail
    refine (place_any k t x A l ca B ns cb name _ S (HS.out.agree fun b hb hlt => ⟨below_agree (((Below.refl w.heap.size w).alloc (Nat.le_refl _) _).alloc (by simp) _) b hlt, hb⟩) (by omega) (by omega)).mono ?_
    rintro e w1 ⟨rfl, hb1⟩
    rw [HI.out]
    obtain ⟨hc1, hf1⟩ := bcell hb1
    have hz1 : w.heap.size + 1 < w1.heap.size := by have := hb1.size; simp at this; omega
    have hz2 : w.heap.size < w1.heap.size := by omega
    go_wp2
    refine bodyPost_ret (v := .tuple #[.agg #[.int .i64 0, .bool false, .string ⟨#[]⟩, .slice none 0 0, .slice none 0 0], .bool false]) (by simp [results, Tryz.results122, go_sem, hc1]) rfl ?_
    refine ⟨[.int .i64 0, .bool false, .string ⟨#[]⟩, .slice none 0 0, .slice none 0 0], by rw [HG.out]; rfl, by rw [HG.out]; exact V.zero_rep _ _, ?_⟩
    repeat refine Below.setCell ?_ (by simp) _
    exact (((Below.refl w.heap.size w).alloc (Nat.le_refl _) _).alloc (by simp) _).trans (hb1.mono (by simp; omega))
  · obtain ⟨j, hj⟩ : ∃ j : Nat, (V.mk k t x l ns).place name = j := ⟨_, (Int.toNat_of_nonneg (by omega)).symm⟩
    have hlt := (V.place_lt hp).2
    rw [hj, Int.toNat_natCast] at hlt
    change j < l.length at hlt
    have hg : (V.mk k t x l ns).get name = some l[j] := by
      rw [V.get, if_neg hp, hj, Int.toNat_natCast]
      exact List.getElem?_eq_getElem hlt
    have HJ := Lib.hid hj
    have HG := Lib.hid hg
    clear hj hg hp
    obtain ⟨b, o, rfl, hSb, hr⟩ := HL.out.resolve_left (by rintro rfl; simp at hlt)
    obtain ⟨cs, hrow, hrep⟩ := hr.get j hlt
    have hbl : b < w.heap.size := hrow.lt (by have := hrep.len; rintro rfl; simp at this)
    obtain ⟨A3, ca3, B3, cb3, rfl, -⟩ := hrep.open
    have HROW := Lib.hid hrow
    have HREP := Lib.hid hrep
    have HLR := Lib.hid hr
    clear hrow hrep hr HL
    have hj0 : (0 : Int) ≤ (j : Int) := Int.natCast_nonneg _
    have hj1 : (j : Int) < (l.length : Int) := by omega
    go_enter Tryz.func122, Tryz.ntmps122
    go_wp2_with fail
    refine (place_any k t x _ l ca B ns cb name _ S (HS.out.agree fun b hb hlt => ⟨below_agree (((Below.refl w.heap.size w).alloc (Nat.le_refl _) _).alloc (by simp) _) b hlt, hb⟩) (by omega) (by omega)).mono ?_
    rintro e w1 ⟨rfl, hb1⟩
    rw [HJ.out]
    have b1 : Below w.heap.size w w1 := (((Below.refl w.heap.size w).alloc (Nat.le_refl _) _).alloc (by simp) _).trans (hb1.mono (by simp; omega))
    obtain ⟨hc1, hf1⟩ := bcell hb1
    have hz1 : w.heap.size + 1 < w1.heap.size := by have := hb1.size; simp at this; omega
    have hz2 : w.heap.size < w1.heap.size := by omega
    have hrow1 := HROW.out.agree (b1.block b hbl)
    have e0 := hrow1 0 (by simp)
    have e1 := hrow1 1 (by simp)
    have e2 := hrow1 2 (by simp)
    have e3 := hrow1 3 (by simp)
    have e4 := hrow1 4 (by simp)
    simp at e0 e1 e2 e3 e4
    rw [Nat.mul_comm] at e0 e1 e2 e3 e4
    have HB1 := Lib.hid b1
    clear hrow1 b1
    go_wp2_with (go_at_call 50; refine (copy_any l[j] [.int .i64 (l[j]).kind, .bool (l[j]).tr, .string (l[j]).text, .slice A3 (l[j]).list.length ca3, .slice B3 (l[j]).names.length cb3] _ S (HN.out _ (List.getElem_mem hlt)) (HREP.out.agree fun b hb hlt => ⟨HB1.out.block b hlt, hb⟩)).mono ?_; rintro e w2 ⟨cs2, rfl, hrep2, hb2⟩; obtain ⟨A4, ca4, B4, cb4, rfl, -⟩ := hrep2.open; have HREP2 := Lib.hid hrep2; clear hrep2; obtain ⟨hc2, hf2⟩ := bcell hb2; have hy1 : w.heap.size + 1 < w2.heap.size := by (have := hb2.size; omega))
    refine bodyPost_ret (v := .tuple #[.agg #[.int .i64 (l[j]).kind, .bool (l[j]).tr, .string (l[j]).text, .slice A4 (l[j]).list.length ca4, .slice B4 (l[j]).names.length cb4], .bool true]) (by simp [results, Tryz.results122, go_sem, hc2, hc1, hz1]) rfl ?_
    refine ⟨[.int .i64 (l[j]).kind, .bool (l[j]).tr, .string (l[j]).text, .slice A4 (l[j]).list.length ca4, .slice B4 (l[j]).names.length cb4], by rw [HG.out]; rfl, ?_, ?_⟩
    · rw [HG.out]
      have hs := hb1.size
      have hs2 := hb2.size
      simp at hs
      exact HREP2.out.put (w.heap.size + 1) 0 [.int .i64 (l[j]).kind, .bool (l[j]).tr, .string (l[j]).text, .slice A4 (l[j]).list.length ca4, .slice B4 (l[j]).names.length cb4] fun x hx hlt => ⟨by omega, by omega, by simp only [setCell_size]; exact hlt⟩
    · repeat refine Below.setCell ?_ (by simp) _
      exact HB1.out.trans (hb2.mono (by omega))

end Go.Proofs.YtoimjnmhinfbkaaGreatDoor
