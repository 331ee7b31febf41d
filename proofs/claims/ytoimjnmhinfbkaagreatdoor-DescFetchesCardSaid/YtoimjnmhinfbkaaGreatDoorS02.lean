import Derived.BigQuiet
import Derived.BigRegion
import Derived.Deep.AppendLies
import Derived.Deep.DeepCutAuto
import Derived.Deep.QuietTactic
import Derived.Deep.RegionHeld3
import Derived.IntWalk
import Derived.RegionTactic
import Derived.Test.YtoimjnmhinfbkaaGreatDoorS01
namespace Go.Proofs.YtoimjnmhinfbkaaGreatDoor
open Go.RowKit
set_option maxRecDepth 100000
/-- what was thrown: a fault with a code, at a place. -/
def Threw (w : World) (c : Int) (s : ByteArray) (e : Ending) (w' : World) : Prop :=
 ∃ g, e = .panicked [{ v := .iface 106 (.pointer (some ⟨g, 0, none⟩)), recovered := false }] ∧ w.heap.size ≤ g ∧ g < w'.heap.size ∧
  w'.heap[g]? = some (.cells #[.int .i64 c, .string s] 114 (0, 0)) ∧ Below w.heap.size w w'
theorem Threw.of {w w1 : World} {c : Int} {s : ByteArray} {e : Ending} {w' : World} (h : Threw w1 c s e w') (hb : Below w.heap.size w w1) : Threw w c s e w' := by
 obtain ⟨g, h1, h2, h3, h4, h5⟩ := h
 have := hb.size
 exact ⟨g, h1, by omega, h3, h4, hb.trans (h5.mono (by omega))⟩
theorem throw_threw (c : Int) (s : ByteArray) (w : World) : Calls Tryz.prog 98 #[.int .i64 c, .string s] w (Threw w c s) :=
 (throw_any c s w).mono fun e w' ⟨h1, h2⟩ => by
  subst h2
  exact ⟨_, h1, Nat.le_refl _, by simp, heap_alloc_new w _, (Below.refl _ _).alloc (Nat.le_refl _) _⟩
theorem must_threw (c : Int) (s : ByteArray) (w : World) : Calls Tryz.prog 99 #[.bool false, .int .i64 c, .string s] w (Threw w c s) :=
 (must_no c s w).mono fun e w' ⟨h1, h2⟩ => by
  subst h2
  exact ⟨_, h1, Nat.le_refl _, by simp, heap_alloc_new w _, (Below.refl _ _).alloc (Nat.le_refl _) _⟩
section
variable (k : Int) (t : Bool) (x : ByteArray) (A : Option Addr) (n ca : Nat) (B : Option Addr) (m cb : Nat) (p : ByteArray) (w : World)
theorem wrong_any (c : Int) : Calls Tryz.prog 53 #[.agg #[.int .i64 k, .bool t, .string x, .slice A n ca, .slice B m cb, .string p], .int .i64 c] w (Threw w c p) := by
 go_enter Tryz.func53, Tryz.ntmps53
 go_wp2_with (go_at_call 98; refine (throw_threw _ _ _).mono ?_; rintro e w' ⟨g, rfl, h⟩)
 exact ⟨rfl, Threw.of ⟨g, rfl, h⟩ ((Below.refl _ _).alloc (Nat.le_refl _) _)⟩
theorem lmust_no (c : Int) : Calls Tryz.prog 54 #[.agg #[.int .i64 k, .bool t, .string x, .slice A n ca, .slice B m cb, .string p], .bool false, .int .i64 c] w (Threw w c p) := by
 go_enter Tryz.func54, Tryz.ntmps54
 go_wp2_with (go_at_call 99; refine (must_threw _ _ _).mono ?_; rintro e w' ⟨g, rfl, h⟩)
 exact ⟨rfl, Threw.of ⟨g, rfl, h⟩ ((Below.refl _ _).alloc (Nat.le_refl _) _)⟩
theorem lmust_yes (c : Int) : Calls Tryz.prog 54 #[.agg #[.int .i64 k, .bool t, .string x, .slice A n ca, .slice B m cb, .string p], .bool true, .int .i64 c] w
  fun e w' => e = .returned (.tuple #[]) ∧ Below w.heap.size w w' := by
 go_enter Tryz.func54, Tryz.ntmps54
 go_wp2_with (go_at_call 99; refine (must_yes _ _ _).mono ?_; rintro e w' ⟨rfl, rfl⟩)
 go_end0
 exact ⟨rfl, (Below.refl _ _).alloc (Nat.le_refl _) _⟩
theorem kind_no (q : Int) (h : (k == q) = false) : Calls Tryz.prog 51 #[.agg #[.int .i64 k, .bool t, .string x, .slice A n ca, .slice B m cb, .string p], .int .i64 q] w (Threw w 11 p) := by
 go_enter Tryz.func51, Tryz.ntmps51
 go_wp2_with (go_at_call 54; refine (lmust_no _ _ _ _ _ _ _ _ _ _ _ _).mono ?_; rintro e w' ⟨g, rfl, h⟩)
 exact ⟨rfl, Threw.of ⟨g, rfl, h⟩ ((Below.refl _ _).alloc (Nat.le_refl _) _)⟩
theorem kind_yes (q : Int) (h : (k == q) = true) : Calls Tryz.prog 51 #[.agg #[.int .i64 k, .bool t, .string x, .slice A n ca, .slice B m cb, .string p], .int .i64 q] w
  fun e w' => e = .returned (.tuple #[]) ∧ Below w.heap.size w w' := by
 go_enter Tryz.func51, Tryz.ntmps51
 go_wp2_with (go_at_call 54; refine (lmust_yes _ _ _ _ _ _ _ _ _ _ _ _).mono ?_; rintro e w' ⟨rfl, hb⟩)
 go_end0
 exact ⟨rfl, Below.trans ((Below.refl _ _).alloc (Nat.le_refl _) _) (hb.mono (by simp))⟩
end
/-- the place of a field. -/
def fieldPlace (p name : ByteArray) : ByteArray := if p.toList = [] then name else p ++ ⟨#[46]⟩ ++ name
theorem field_any (k : Int) (t : Bool) (x : ByteArray) (A : Option Addr) (n ca : Nat) (B : Option Addr) (m cb : Nat) (p name : ByteArray) (w : World) (hp : p.size ≤ 1073741824) (hn : name.size ≤ 1073741824) :
  Calls Tryz.prog 101 #[.agg #[.int .i64 k, .bool t, .string x, .slice A n ca, .slice B m cb, .string p], .string name] w
   fun e w' => e = .returned (.string (fieldPlace p name)) ∧ w' = w.alloc (.cells #[.int .i64 k, .bool t, .string x, .slice A n ca, .slice B m cb, .string p] 32) := by
 go_enter Tryz.func101, Tryz.ntmps101
 cases he : p.toList.isEmpty
 ·go_wp2
  go_ret
  refine ⟨?_, rfl⟩
  show Ending.returned (.string (p ++ ⟨#[46]⟩ ++ name)) = _
  rw [fieldPlace, if_neg (by simpa using he)]
 ·go_wp2
  go_ret
  refine ⟨?_, rfl⟩
  show Ending.returned (.string name) = _
  rw [fieldPlace, if_pos (by simpa using he)]
/-- where a name's value stands; -1: nowhere. -/
def V.place (v : V) (name : ByteArray) : Int :=
 if v.kind ≠ 5 ∨ (v.list.length : Int) ≤ Lib.idxOfS v.names name then -1 else Lib.idxOfS v.names name
theorem index_strs (B : Option Addr) (ns : List ByteArray) (c : Nat) (name : ByteArray) (w : World) (S : Nat → Prop) (h : Strs w S B ns) (hl : ns.length ≤ 8388608) :
  Calls Tryz.prog 131 #[.slice B ns.length c, .string name] w fun e w' => e = .returned (.int .i64 (Lib.idxOfS ns name)) ∧ w' = w := by
 rcases h with h | ⟨b, o, hA, hS, hr⟩
 ·subst h
  exact Tryz.slices_Index_string_empty B c name w
 ·subst hA
  have := Tryz.slices_Index_string b o ns.length c ns name w (Nat.le_refl _) (by omega) (fun j hj => by
   have := hr j (by simpa using hj)
   simpa [List.getD_eq_getElem?_getD, hj] using this)
  rwa [List.take_length] at this
theorem place_any (k : Int) (t : Bool) (x : ByteArray) (A : Option Addr) (l : List V) (ca : Nat) (B : Option Addr) (ns : List ByteArray) (cb : Nat) (name : ByteArray) (w : World) (S : Nat → Prop)
  (hS : Strs w S B ns) (hn : ns.length ≤ 8388608) (hl : l.length ≤ 8388608) :
  Calls Tryz.prog 145 #[.agg #[.int .i64 k, .bool t, .string x, .slice A l.length ca, .slice B ns.length cb], .string name] w
   fun e w' => e = .returned (.int .i64 ((V.mk k t x l ns).place name)) ∧ Below w.heap.size w w' := by
 have HS := Lib.hid (hS.agree (w' := w.alloc (.cells #[.int .i64 k, .bool t, .string x, .slice A l.length ca, .slice B ns.length cb] 27)) (S' := S) fun b hb hlt => ⟨Below.heap_alloc w _ b hlt, hb⟩)
 clear hS
 generalize hi : Lib.idxOfS ns name = i
 have HI := Lib.hid hi
 clear hi
 have hp : (V.mk k t x l ns).place name = if k ≠ 5 ∨ (l.length : Int) ≤ i then -1 else i := by simp only [V.place, V.kind, V.list, V.names, HI.out]
 have HP := Lib.hid hp
 clear hp
 by_cases hk : k = 5
 ·subst hk
  by_cases h : (l.length : Int) ≤ i
  ·have hd : decide ((l.length : Int) ≤ i) = true := by simpa using h
   go_enter Tryz.func145, Tryz.ntmps145
   go_wp2_with (go_at_call 131; refine (index_strs B ns cb name _ S HS.out hn).mono ?_; rintro e w' ⟨rfl, rfl⟩; rw [HI.out])
   go_ret
   refine ⟨?_, (Below.refl _ _).alloc (Nat.le_refl _) _⟩
   rw [HP.out, if_pos (.inr h)]; rfl
  ·have hd : decide ((l.length : Int) ≤ i) = false := by simpa using h
   go_enter Tryz.func145, Tryz.ntmps145
   go_wp2_with (go_at_call 131; refine (index_strs B ns cb name _ S HS.out hn).mono ?_; rintro e w' ⟨rfl, rfl⟩; rw [HI.out])
   go_ret
   refine ⟨?_, (Below.refl _ _).alloc (Nat.le_refl _) _⟩
   rw [HP.out, if_neg (by simpa using h)]; rfl
 ·have hk2 : (k != 5) = true := by simpa using hk
  have hk3 : (k == 5) = false := by simpa using hk
  have HK := Lib.hid hk
  clear hk
  go_enter Tryz.func145, Tryz.ntmps145
  go_wp2_with (go_at_call 131; refine (index_strs B ns cb name _ S HS.out hn).mono ?_; rintro e w' ⟨rfl, rfl⟩; rw [HI.out])
  go_ret
  refine ⟨?_, (Below.refl _ _).alloc (Nat.le_refl _) _⟩
  rw [HP.out, if_pos (.inl HK.out)]; rfl
end Go.Proofs.YtoimjnmhinfbkaaGreatDoor

namespace Go.Proofs.YtoimjnmhinfbkaaGreatDoor
open Go.RowKit
set_option maxRecDepth 100000
def V.zero : V := .mk 0 false ⟨#[]⟩ [] []
theorem V.zero_rep (w : World) (S : Nat → Prop) : V.zero.Rep w S [.int .i64 0, .bool false, .string ⟨#[]⟩, .slice none 0 0, .slice none 0 0] :=
 ⟨none, 0, none, 0, rfl, Nat.le_refl _, Nat.le_refl _, .inl rfl, .inl rfl⟩
def V.get (v : V) (name : ByteArray) : Option V := if v.place name < 0 then none else v.list[(v.place name).toNat]?
theorem V.place_lt {v : V} {name : ByteArray} (h : ¬ v.place name < 0) : v.kind = 5 ∧ (v.place name).toNat < v.list.length := by
 unfold V.place at h ⊢
 split at h
 ·omega
 ·rename_i h2
  rw [if_neg h2]
  exact ⟨by omega, by omega⟩
theorem V.Rep.put {v : V} {w : World} {S : Nat → Prop} {cs : List Value} (h : v.Rep w S cs) (b o : Nat) (d : List Value) {S' : Nat → Prop} (hb : ∀ x, S x → x < w.heap.size → x ≠ b ∧ S' x) : v.Rep (w.setCells b o d) S' cs :=
 h.agree fun x hx hlt => ⟨setCells_block b d o w x (hb x hx hlt).1, (hb x hx hlt).2⟩
set_option maxHeartbeats 800000 in
theorem get_any (v : V) (cs : List Value) (name : ByteArray) (w : World) (S : Nat → Prop) (hv : v.Rep w S cs) (hb : v.bulk ≤ 4194304) :
  Calls Tryz.prog 122 #[.agg cs.toArray, .string name] w
   fun e w' => ∃ cs', e = .returned (.tuple #[.agg cs'.toArray, .bool (v.get name).isSome]) ∧ ((v.get name).getD V.zero).Rep w' (fun b => w.heap.size ≤ b ∧ b < w'.heap.size) cs' ∧ Below w.heap.size w w' := by
 obtain ⟨k, t, x, l, ns⟩ := v
 obtain ⟨A, ca, B, cb, rfl, hca, hcb, hS, hl⟩ := hv
 have hnl : ns.length ≤ 4194304 ∧ l.length ≤ 4194304 ∧ ∀ v ∈ l, v.bulk ≤ 4194304 := by
  simp only [V.bulk] at hb
  have := names_length ns
  have := V.bulks_length l
  exact ⟨by omega, by omega, fun v hv => by have := V.bulks_mem hv; omega⟩
 obtain ⟨hn1, hn2, hn3⟩ := hnl
 have HN := Lib.hid hn3
 have HL := Lib.hid hl
 have HS := Lib.hid hS
 clear hn3 hl hS hb
 by_cases hp : (V.mk k t x l ns).place name < 0
 ·have hg : (V.mk k t x l ns).get name = none := by rw [V.get, if_pos hp]
  generalize hi : (V.mk k t x l ns).place name = i at hp
  have HI := Lib.hid hi
  have HG := Lib.hid hg
  clear hi hg
  go_enter Tryz.func122, Tryz.ntmps122
  go_wp2_with fail
  refine (place_any k t x A l ca B ns cb name _ S (HS.out.agree fun b hb hlt => ⟨below_agree (((Below.refl w.heap.size w).alloc (Nat.le_refl _) _).alloc (by simp) _) b hlt, hb⟩) (by omega) (by omega)).mono ?_
  rintro e w1 ⟨rfl, hb1⟩
  rw [HI.out]
  obtain ⟨hc1, hf1⟩ := bcell hb1
  have hz1 : w.heap.size + 1 < w1.heap.size := by have := hb1.size; simp at this; omega
  have hz2 : w.heap.size < w1.heap.size := by omega
  go_wp2
  refine bodyPost_ret (v := .tuple #[.agg #[.int .i64 0, .bool false, .string ⟨#[]⟩, .slice none 0 0, .slice none 0 0], .bool false]) (by simp [results, Tryz.results122, go_sem, hc1]) rfl ?_
  refine ⟨[.int .i64 0, .bool false, .string ⟨#[]⟩, .slice none 0 0, .slice none 0 0], by rw [HG.out]; rfl, by rw [HG.out]; exact V.zero_rep _ _, ?_⟩
  repeat refine Below.setCell ?_ (by simp) _
  exact (((Below.refl w.heap.size w).alloc (Nat.le_refl _) _).alloc (by simp) _).trans (hb1.mono (by simp; omega))
 ·obtain ⟨j, hj⟩ : ∃ j : Nat, (V.mk k t x l ns).place name = j := ⟨_, (Int.toNat_of_nonneg (by omega)).symm⟩
  have hlt := (V.place_lt hp).2
  rw [hj, Int.toNat_natCast] at hlt
  change j < l.length at hlt
  have hg : (V.mk k t x l ns).get name = some l[j] := by
   rw [V.get, if_neg hp, hj, Int.toNat_natCast]
   exact List.getElem?_eq_getElem hlt
  have HJ := Lib.hid hj
  have HG := Lib.hid hg
  clear hj hg hp
  obtain ⟨b, o, rfl, hSb, hr⟩ := HL.out.resolve_left (by rintro rfl; simp at hlt)
  obtain ⟨cs, hrow, hrep⟩ := hr.get j hlt
  have hbl : b < w.heap.size := hrow.lt (by have := hrep.len; rintro rfl; simp at this)
  obtain ⟨A3, ca3, B3, cb3, rfl, -⟩ := hrep.open
  have HROW := Lib.hid hrow
  have HREP := Lib.hid hrep
  have HLR := Lib.hid hr
  clear hrow hrep hr HL
  have hj0 : (0 : Int) ≤ (j : Int) := Int.natCast_nonneg _
  have hj1 : (j : Int) < (l.length : Int) := by omega
  go_enter Tryz.func122, Tryz.ntmps122
  go_wp2_with fail
  refine (place_any k t x _ l ca B ns cb name _ S (HS.out.agree fun b hb hlt => ⟨below_agree (((Below.refl w.heap.size w).alloc (Nat.le_refl _) _).alloc (by simp) _) b hlt, hb⟩) (by omega) (by omega)).mono ?_
  rintro e w1 ⟨rfl, hb1⟩
  rw [HJ.out]
  have b1 : Below w.heap.size w w1 := (((Below.refl w.heap.size w).alloc (Nat.le_refl _) _).alloc (by simp) _).trans (hb1.mono (by simp; omega))
  obtain ⟨hc1, hf1⟩ := bcell hb1
  have hz1 : w.heap.size + 1 < w1.heap.size := by have := hb1.size; simp at this; omega
  have hz2 : w.heap.size < w1.heap.size := by omega
  have hrow1 := HROW.out.agree (b1.block b hbl)
  have e0 := hrow1 0 (by simp)
  have e1 := hrow1 1 (by simp)
  have e2 := hrow1 2 (by simp)
  have e3 := hrow1 3 (by simp)
  have e4 := hrow1 4 (by simp)
  simp at e0 e1 e2 e3 e4
  rw [Nat.mul_comm] at e0 e1 e2 e3 e4
  have HB1 := Lib.hid b1
  clear hrow1 b1
  go_wp2_with (go_at_call 50; refine (copy_any l[j] [.int .i64 (l[j]).kind, .bool (l[j]).tr, .string (l[j]).text, .slice A3 (l[j]).list.length ca3, .slice B3 (l[j]).names.length cb3] _ S (HN.out _ (List.getElem_mem hlt)) (HREP.out.agree fun b hb hlt => ⟨HB1.out.block b hlt, hb⟩)).mono ?_; rintro e w2 ⟨cs2, rfl, hrep2, hb2⟩; obtain ⟨A4, ca4, B4, cb4, rfl, -⟩ := hrep2.open; have HREP2 := Lib.hid hrep2; clear hrep2; obtain ⟨hc2, hf2⟩ := bcell hb2; have hy1 : w.heap.size + 1 < w2.heap.size := by (have := hb2.size; omega))
  refine bodyPost_ret (v := .tuple #[.agg #[.int .i64 (l[j]).kind, .bool (l[j]).tr, .string (l[j]).text, .slice A4 (l[j]).list.length ca4, .slice B4 (l[j]).names.length cb4], .bool true]) (by simp [results, Tryz.results122, go_sem, hc2, hc1, hz1]) rfl ?_
  refine ⟨[.int .i64 (l[j]).kind, .bool (l[j]).tr, .string (l[j]).text, .slice A4 (l[j]).list.length ca4, .slice B4 (l[j]).names.length cb4], by rw [HG.out]; rfl, ?_, ?_⟩
  ·rw [HG.out]
   have hs := hb1.size
   have hs2 := hb2.size
   simp at hs
   exact HREP2.out.put (w.heap.size + 1) 0 [.int .i64 (l[j]).kind, .bool (l[j]).tr, .string (l[j]).text, .slice A4 (l[j]).list.length ca4, .slice B4 (l[j]).names.length cb4] fun x hx hlt => ⟨by omega, by omega, by simp only [setCell_size]; exact hlt⟩
  ·repeat refine Below.setCell ?_ (by simp) _
   exact HB1.out.trans (hb2.mono (by omega))
end Go.Proofs.YtoimjnmhinfbkaaGreatDoor

namespace Go.Proofs.YtoimjnmhinfbkaaGreatDoor
open Go.RowKit
set_option maxRecDepth 100000
theorem named_no (k : Int) (t : Bool) (x : ByteArray) (A : Option Addr) (n ca : Nat) (B : Option Addr) (m cb : Nat) (p name : ByteArray) (w : World) (h : (k == 5) = false) :
  Calls Tryz.prog 92 #[.agg #[.int .i64 k, .bool t, .string x, .slice A n ca, .slice B m cb, .string p], .string name] w (Threw w 11 p) := by
 go_enter Tryz.func92, Tryz.ntmps92
 go_wp2_with (go_at_call 51; refine (kind_no _ _ _ _ _ _ _ _ _ _ _ _ h).mono ?_; rintro e w' ⟨g, rfl, h⟩)
 exact ⟨rfl, Threw.of ⟨g, rfl, h⟩ (((Below.refl _ _).alloc (Nat.le_refl _) _).alloc (by simp) _)⟩
theorem V.Rep.fresh {v : V} {w2 W : World} {lo lo2 g : Nat} {cs : List Value} (h : v.Rep w2 (fun b => lo2 ≤ b ∧ b < w2.heap.size) cs) (ha : Also (fun b => b ≠ g) w2 W) (hl : lo ≤ lo2) (hg : g < lo2) :
  v.Rep W (fun b => lo ≤ b ∧ b < W.heap.size) cs :=
 h.also ha fun b hb hlt => ⟨by omega, by omega, Nat.lt_of_lt_of_le hlt ha.size⟩
set_option maxHeartbeats 2000000 in
theorem named_yes (v : V) (cs : List Value) (p name : ByteArray) (w : World) (S : Nat → Prop) (hv : v.Rep w S cs) (hb : v.bulk ≤ 4194304) (hk : v.kind = 5) (hp : p.size ≤ 1073741824) (hn : name.size ≤ 1073741824) :
  Calls Tryz.prog 92 #[.agg (cs ++ [Value.string p]).toArray, .string name] w
   fun e w' => ∃ cs', e = .returned (.tuple #[.agg (cs' ++ [Value.string (fieldPlace p name)]).toArray, .bool (v.get name).isSome]) ∧
    ((v.get name).getD V.zero).Rep w' (fun b => w.heap.size ≤ b ∧ b < w'.heap.size) cs' ∧ Below w.heap.size w w' := by
 have hv2 := hv
 obtain ⟨A, ca, B, cb, rfl, -⟩ := hv.open
 have HV := Lib.hid hv2
 rw [hk] at HV
 clear hv hv2
 rw [hk]
 simp only [List.cons_append, List.nil_append]
 generalize hu : (v.get name).getD V.zero = u
 generalize hq : (v.get name).isSome = q
 have hg := get_any v [.int .i64 5, .bool v.tr, .string v.text, .slice A v.list.length ca, .slice B v.names.length cb] name
 rw [hu, hq] at hg
 have HGet := Lib.hid hg
 clear hg hu hq
 go_enter Tryz.func92, Tryz.ntmps92
 go_wp2_with fail
 refine (kind_yes _ _ _ _ _ _ _ _ _ _ _ _ (by rfl)).mono ?_
 rintro e w1 ⟨rfl, hb1⟩
 have b1 : Below w.heap.size w w1 := (((Below.refl w.heap.size w).alloc (Nat.le_refl _) _).alloc (by simp) _).trans (hb1.mono (by simp; omega))
 obtain ⟨hc1, hf1⟩ := bcell hb1
 have hz1 : w.heap.size + 1 < w1.heap.size := by have := hb1.size; simp at this; omega
 have hz2 : w.heap.size < w1.heap.size := by omega
 have HB1 := Lib.hid b1
 clear b1
 go_wp2_with (go_at_call 122; refine (HGet.out _ S (HV.out.agree fun b hb hlt => ⟨HB1.out.block b hlt, hb⟩) hb).mono ?_; rintro e w2 ⟨cs2, rfl, hrep2, hb2⟩; obtain ⟨A4, ca4, B4, cb4, rfl, -⟩ := hrep2.open; have HREP2 := Lib.hid hrep2; clear hrep2; obtain ⟨hc2, hf2⟩ := bcell hb2; have hy1 : w.heap.size + 1 < w2.heap.size := (by have := hb2.size; omega); have hy2 : w.heap.size < w2.heap.size := (by omega))
 go_region_with (go_at_call 101; refine (field_any _ _ _ _ _ _ _ _ _ _ _ _ hp hn).mono ?_; rintro e w3 ⟨rfl, rfl⟩)
 all_goals
  go_wp2
  refine bodyPost_ret (v := .tuple #[.agg #[.int .i64 u.kind, .bool u.tr, .string u.text, .slice A4 u.list.length ca4, .slice B4 u.names.length cb4, .string (fieldPlace p name)], .bool q]) (by simp [results, Tryz.results92, go_sem, hc2, hc1, hz1, hy1, hy2, Nat.lt_succ_of_lt hy2]) rfl ?_
  refine ⟨[.int .i64 u.kind, .bool u.tr, .string u.text, .slice A4 u.list.length ca4, .slice B4 u.names.length cb4], rfl, ?_, ?_⟩
  ·have hs1 := hb1.size
   simp at hs1
   exact HREP2.out.fresh (lo := w.heap.size) (g := w.heap.size + 1) (by (repeat (first | with_reducible refine Also.drew ?_ | with_reducible refine Also.alloc ?_ _ | with_reducible refine Also.setCell ?_ (by simp) _)); exact Also.refl _ _) (by omega) (by omega)
  ·(repeat (first | with_reducible refine Below.drew ?_ | with_reducible refine Below.alloc ?_ (by simp; omega) _ | with_reducible refine Below.setCell ?_ (by simp) _))
   exact HB1.out.trans (hb2.mono (by omega))
end Go.Proofs.YtoimjnmhinfbkaaGreatDoor

namespace Go.Proofs.YtoimjnmhinfbkaaGreatDoor
open Go.RowKit
set_option maxRecDepth 100000
def dig (c : UInt8) : Bool := 48 ≤ c && c ≤ 57
def digs (l : List UInt8) : List UInt8 := l.takeWhile dig
def rest (l : List UInt8) : List UInt8 := l.dropWhile dig
theorem ba_get (l : List UInt8) (k : Nat) (h : k < l.length) (h' : k < (⟨l.toArray⟩ : ByteArray).size) : (⟨l.toArray⟩ : ByteArray)[k] = l[k] := rfl
theorem ba_extract (l : List UInt8) (a b : Nat) : (⟨l.toArray⟩ : ByteArray).extract a b = ⟨((l.drop a).take (b - a)).toArray⟩ := by
 apply ByteArray.ext
 rw [ByteArray.data_extract]
 simp
theorem dig_iff (c : UInt8) : dig c = true ↔ 48 ≤ (c.toNat : Int) ∧ (c.toNat : Int) ≤ 57 := by
 unfold dig; simp [UInt8.le_iff_toNat_le]; omega
theorem digs_at (l : List UInt8) : ∀ (k : Nat), k ≤ l.length → (l.take k).all dig = true → (∀ h : k < l.length, dig l[k] = false) → digs l = l.take k ∧ rest l = l.drop k := by
 induction l with
 | nil => intro k hk _ _; simp [digs, rest]
 | cons c l ih =>
  intro k hk hd hn
  cases k with
  | zero =>
   have := hn (by simp)
   simp at this
   simp [digs, rest, this]
  | succ k =>
   simp at hd hk
   have := ih k hk (by simpa using hd.2) (fun h => by have := hn (by simpa using h); simpa using this)
   simp [digs, rest, hd.1] at this ⊢
   exact this
set_option maxHeartbeats 800000 in
theorem figures_any (l : List UInt8) (w : World) (hs : l.length ≤ 1073741824) :
  Calls Tryz.prog 146 #[.string ⟨l.toArray⟩] w fun e w' => e = .returned (.tuple #[.string ⟨(digs l).toArray⟩, .string ⟨(rest l).toArray⟩]) ∧ w' = w.drew := by
 go_enter Tryz.func146, Tryz.ntmps146
 go_wp2
 go_loop [4] (fun i => ∃ k : Nat, k ≤ l.length ∧ i = .int .i64 k ∧ (l.take k).all dig = true) (fun i => l.length - (intOf i).toNat)
 case atStart => exact ⟨0, Nat.zero_le _, rfl, rfl⟩
 case round =>
  obtain ⟨k, hk, rfl, hd⟩ := hrel
  have HD := Lib.hid hd
  clear hd
  by_cases hlt : k < l.length
  ·have hk0 : (0 : Int) ≤ (k : Int) := Int.natCast_nonneg _
   have hk1 : (k : Int) ≤ (l.length : Int) := by omega
   have hsz : k < (⟨l.toArray⟩ : ByteArray).size := hlt
   by_cases ha : 48 ≤ (((⟨l.toArray⟩ : ByteArray)[k]'hsz).toNat : Int)
   ·by_cases hb : (((⟨l.toArray⟩ : ByteArray)[k]'hsz).toNat : Int) ≤ 57
    ·have hdk := Lib.hid ((dig_iff l[k]).2 ⟨ha, hb⟩)
     go_wp2
     go_round
     case rel =>
      refine ⟨k + 1, hlt, by go_num, ?_⟩
      rw [List.take_succ_eq_append_getElem hlt, List.all_append, HD.out]
      simp only [List.all_cons, List.all_nil, Bool.and_true, Bool.true_and]
      exact hdk.out
     case measure => simp [intOf]; omega
    ·have hx := Lib.hid (digs_at l k hk HD.out fun h => by
      rw [← Bool.not_eq_true, dig_iff]; exact fun h3 => hb h3.2)
     have hb2 : 57 < (((⟨l.toArray⟩ : ByteArray)[k]'hsz).toNat : Int) := by omega
     go_wp2
     go_region
     go_wp2
     go_ret2
     refine ⟨?_, rfl⟩
     rw [hx.out.1, hx.out.2]
     show Ending.returned (.tuple #[.string _, .string _]) = _
     rw [ba_extract, ba_extract, List.drop_zero, Nat.sub_zero, List.take_of_length_le (l := List.drop k l) (by simp)]
   ·have hx := Lib.hid (digs_at l k hk HD.out fun h => by
     rw [← Bool.not_eq_true, dig_iff]; exact fun h3 => ha h3.1)
    have ha2 : (((⟨l.toArray⟩ : ByteArray)[k]'hsz).toNat : Int) < 48 := by omega
    go_wp2
    go_region
    go_wp2
    go_ret2
    refine ⟨?_, rfl⟩
    rw [hx.out.1, hx.out.2]
    show Ending.returned (.tuple #[.string _, .string _]) = _
    rw [ba_extract, ba_extract, List.drop_zero, Nat.sub_zero, List.take_of_length_le (l := List.drop k l) (by simp)]
  ·have hx := Lib.hid (digs_at l k hk HD.out fun h => absurd h hlt)
   have hk0 : (0 : Int) ≤ (k : Int) := Int.natCast_nonneg _
   have hk1 : (k : Int) ≤ (l.length : Int) := by omega
   go_wp2
   go_region
   go_wp2
   go_ret2
   refine ⟨?_, rfl⟩
   rw [hx.out.1, hx.out.2]
   show Ending.returned (.tuple #[.string _, .string _]) = _
   rw [ba_extract, ba_extract, List.drop_zero, Nat.sub_zero, List.take_of_length_le (l := List.drop k l) (by simp)]
end Go.Proofs.YtoimjnmhinfbkaaGreatDoor

namespace Go.Proofs.YtoimjnmhinfbkaaGreatDoor
open Go.RowKit
set_option maxRecDepth 100000
theorem cut_yes (c : UInt8) (t : List UInt8) (w : World) :
  Calls Tryz.prog 133 #[.string ⟨(c :: t).toArray⟩, .string ⟨#[c]⟩] w fun e w' => e = .returned (.tuple #[.string ⟨t.toArray⟩, .bool true]) ∧ w' = w :=
 (Tryz.strings_CutPrefix ⟨(c :: t).toArray⟩ ⟨#[c]⟩ w).mono fun e w' ⟨h1, h2⟩ => by
  refine ⟨h1.trans ?_, h2⟩
  simp [Lib.trimPrefix, Lib.hasPrefix]
theorem cut_no (l : List UInt8) (c : UInt8) (w : World) (h : l.head? ≠ some c) :
  Calls Tryz.prog 133 #[.string ⟨l.toArray⟩, .string ⟨#[c]⟩] w fun e w' => e = .returned (.tuple #[.string ⟨l.toArray⟩, .bool false]) ∧ w' = w :=
 (Tryz.strings_CutPrefix ⟨l.toArray⟩ ⟨#[c]⟩ w).mono fun e w' ⟨h1, h2⟩ => by
  refine ⟨h1.trans ?_, h2⟩
  cases l with
  | nil => simp [Lib.trimPrefix, Lib.hasPrefix]
  | cons a t =>
   have h3 : ¬ c = a := fun h4 => h (by rw [h4]; rfl)
   simp [Lib.trimPrefix, Lib.hasPrefix, List.isPrefixOf, h3]
theorem ba_append (a b : List UInt8) : (⟨a.toArray⟩ : ByteArray) ++ ⟨b.toArray⟩ = ⟨(a ++ b).toArray⟩ := by
 apply ByteArray.ext
 simp [ByteArray.data_append]
structure Parts where
 below : Bool
 ahead : List UInt8
 behind : List UInt8
 power : List UInt8
def parsePow (b : Bool) (x y sign t : List UInt8) : Option Parts := if digs t = [] ∨ rest t ≠ [] then none else some ⟨b, x, y, sign ++ digs t⟩
/-- the sign ahead of an exponent, and what is behind it. -/
def signOf : List UInt8 → List UInt8
 | [] => []
 | d :: _ => if d = 43 ∨ d = 45 then [d] else []
def behindSign : List UInt8 → List UInt8
 | [] => []
 | d :: t => if d = 43 ∨ d = 45 then t else d :: t
def badE (c : UInt8) : Bool := !(c == 101) && !(c == 69)
def parseExp (b : Bool) (x y : List UInt8) : List UInt8 → Option Parts
 | [] => some ⟨b, x, y, []⟩
 | c :: s => if badE c = true then none else parsePow b x y (signOf s) (behindSign s)
theorem u8_eq {c : UInt8} {n : Nat} (hn : n < 256) (h : (c.toNat : Int) = n) : c = UInt8.ofNat n := UInt8.toNat_inj.1 (by simp; omega)
def isSign : List UInt8 → Bool
 | [] => false
 | d :: _ => d == 43 || d == 45
theorem behindSign_length (t : List UInt8) : (behindSign t).length ≤ t.length := by
 cases t with
 | nil => simp [behindSign]
 | cons d t => simp only [behindSign]; split <;> simp
theorem signOf_length (t : List UInt8) : (signOf t).length ≤ 1 := by
 cases t with
 | nil => simp [signOf]
 | cons d t => simp only [signOf]; split <;> simp
theorem sign_no {d : UInt8} {t : List UInt8} (h : isSign (d :: t) = false) : behindSign (d :: t) = d :: t ∧ signOf (d :: t) = [] := by
 have : ¬ (d = 43 ∨ d = 45) := by simpa [isSign] using h
 simp only [behindSign, signOf, if_neg this, and_self]
theorem sign_yes {d : UInt8} {t : List UInt8} (h : isSign (d :: t) = true) : behindSign (d :: t) = t ∧ signOf (d :: t) = [d] := by
 have : d = 43 ∨ d = 45 := by simpa [isSign] using h
 simp only [behindSign, signOf, if_pos this, and_self]
theorem sign_val (d : UInt8) (t : List UInt8) : Value.bool ((d.toNat : Int) == 43 || (d.toNat : Int) == 45) = .bool (isSign (d :: t)) := by
 have h5 : ∀ n : Nat, n < 256 → ((d.toNat : Int) == n) = (d == UInt8.ofNat n) := by
  intro n hn
  by_cases h6 : (d.toNat : Int) = n
  ·have := u8_eq hn h6
   rw [this]; simp; omega
  ·have : ¬ d = UInt8.ofNat n := by rintro rfl; exact h6 (by simp; omega)
   have h7 : (d == UInt8.ofNat n) = false := by simpa using this
   rw [h7]; simpa using h6
 have h1 : ((d.toNat : Int) == 43) = (d == 43) := h5 43 (by omega)
 have h2 : ((d.toNat : Int) == 45) = (d == 45) := h5 45 (by omega)
 rw [h1, h2]; rfl
theorem isSign_43 {d : UInt8} {t : List UInt8} (h : (d.toNat : Int) = 43) : isSign (d :: t) = true := by rw [u8_eq (n := 43) (by omega) h]; rfl
theorem parseExp_bad {b : Bool} {x y s : List UInt8} {c : UInt8} (h : badE c = true) : parseExp b x y (c :: s) = none := by rw [parseExp, if_pos h]
theorem parseExp_ok {b : Bool} {x y s : List UInt8} {c : UInt8} (h : badE c = false) : parseExp b x y (c :: s) = parsePow b x y (signOf s) (behindSign s) := by rw [parseExp, if_neg (by simp [h])]
theorem badE_101 {c : UInt8} (h : (c.toNat : Int) = 101) : badE c = false := by rw [u8_eq (n := 101) (by omega) h]; rfl
theorem badE_69 {c : UInt8} (h : (c.toNat : Int) = 69) : badE c = false := by rw [u8_eq (n := 69) (by omega) h]; rfl
theorem badE_val (c : UInt8) (h : ¬ (c.toNat : Int) = 101) : Value.bool ((c.toNat : Int) != 101 && (c.toNat : Int) != 69) = .bool (badE c) := by
 have h3 : (c == 101) = false := by
  have : ¬ c = 101 := by rintro rfl; exact h rfl
  simpa using this
 have h4 : ((c.toNat : Int) != 101) = true := by simpa using h
 have h5 : ((c.toNat : Int) != 69) = !(c == 69) := by
  by_cases h6 : (c.toNat : Int) = 69
  ·rw [u8_eq (n := 69) (by omega) h6]; rfl
  ·have : ¬ c = 69 := by rintro rfl; exact h6 rfl
   have h7 : (c == 69) = false := by simpa using this
   rw [h7]; simpa using h6
 rw [badE, h3, h4, h5]; rfl
def badB (x : List UInt8) : Bool := x.isEmpty || (x.head? == some 48 && decide (1 < x.length))
def undot (y : List UInt8) : List UInt8 := if (y.head? == some 46) = true then y.tail else y
def parseDot (b : Bool) (x y : List UInt8) : Option Parts :=
 if (y.head? == some 46) = true then (if digs (undot y) = [] then none else parseExp b x (digs (undot y)) (rest (undot y))) else parseExp b x [] y
theorem parseDot_no {b : Bool} {x y : List UInt8} (h : (y.head? == some 46) = false) : parseDot b x y = parseExp b x [] y := by rw [parseDot, if_neg (by simp [h])]
def parseTail (b : Bool) (s : List UInt8) : Option Parts := if badB (digs s) = true then none else parseDot b (digs s) (rest s)
theorem cut_dot (l : List UInt8) (w : World) :
  Calls Tryz.prog 133 #[.string ⟨l.toArray⟩, .string ⟨#[46]⟩] w fun e w' => e = .returned (.tuple #[.string ⟨(undot l).toArray⟩, .bool (l.head? == some 46)]) ∧ w' = w := by
 by_cases h : l.head? = some 46
 ·obtain ⟨t, rfl⟩ : ∃ t, l = 46 :: t := by
   cases l with
   | nil => cases h
   | cons a t => exact ⟨t, by simp at h; rw [h]⟩
  exact cut_yes 46 t w
 ·refine (cut_no l 46 w h).mono fun e w' ⟨h1, h2⟩ => ⟨?_, h2⟩
  have : (l.head? == some 46) = false := by simpa using h
  rw [h1, undot, this]; rfl
theorem undot_length (l : List UInt8) : (undot l).length ≤ l.length := by unfold undot; split <;> simp
def neg (l : List UInt8) : Bool := l.head? == some 45
def unsign (l : List UInt8) : List UInt8 := if neg l then l.tail else l
def parseL (l : List UInt8) : Option Parts := if 64 < l.length then none else parseTail (neg l) (unsign l)
theorem cut_sign (l : List UInt8) (w : World) :
  Calls Tryz.prog 133 #[.string ⟨l.toArray⟩, .string ⟨#[45]⟩] w fun e w' => e = .returned (.tuple #[.string ⟨(unsign l).toArray⟩, .bool (neg l)]) ∧ w' = w := by
 by_cases h : l.head? = some 45
 ·obtain ⟨t, rfl⟩ : ∃ t, l = 45 :: t := by
   cases l with
   | nil => cases h
   | cons a t => exact ⟨t, by simp at h; rw [h]⟩
  exact cut_yes 45 t w
 ·refine (cut_no l 45 w h).mono fun e w' ⟨h1, h2⟩ => ⟨?_, h2⟩
  have : neg l = false := by simpa [neg] using h
  rw [h1, unsign, this]; rfl
theorem unsign_length (l : List UInt8) : (unsign l).length ≤ l.length := by unfold unsign; split <;> simp
theorem digs_rest (l : List UInt8) : (digs l).length + (rest l).length = l.length := by
 have := congrArg List.length (List.takeWhile_append_dropWhile (p := dig) (l := l))
 rw [List.length_append] at this; exact this
theorem below_drewN {B : Nat} {w W : World} (h : Below B w W) (n : Nat) : Below B w (W.drewN n) := ⟨h.os, h.tape, h.output, h.size, h.block⟩
def PRes (w : World) (r : Option Parts) (e : Ending) (w' : World) : Prop :=
 Below w.heap.size w w' ∧ match r with
 | none => e = .returned (.tuple #[.agg #[.bool false, .string ⟨#[]⟩, .string ⟨#[]⟩, .string ⟨#[]⟩], .bool false])
 | some p => e = .returned (.tuple #[.agg #[.bool p.below, .string ⟨p.ahead.toArray⟩, .string ⟨p.behind.toArray⟩, .string ⟨p.power.toArray⟩], .bool true])
theorem pres_none {w w' : World} {e : Ending} {r : Option Parts} (hb : Below w.heap.size w w') (hr : r = none) (he : e = .returned (.tuple #[.agg #[.bool false, .string ⟨#[]⟩, .string ⟨#[]⟩, .string ⟨#[]⟩], .bool false])) : PRes w r e w' := by
 subst hr; exact ⟨hb, he⟩
theorem pres_some {w w' : World} {e : Ending} {r : Option Parts} (p : Parts) (hb : Below w.heap.size w w') (hr : r = some p) (he : e = .returned (.tuple #[.agg #[.bool p.below, .string ⟨p.ahead.toArray⟩, .string ⟨p.behind.toArray⟩, .string ⟨p.power.toArray⟩], .bool true])) : PRes w r e w' := by
 subst hr; exact ⟨hb, he⟩
theorem badB_48 {c d : UInt8} {t : List UInt8} (h : (c.toNat : Int) = 48) : badB (c :: d :: t) = true := by
 have : c = 48 := UInt8.toNat_inj.1 (by simpa using (by omega : c.toNat = 48))
 simp [badB, this]
theorem badB_n48 {c : UInt8} {t : List UInt8} (h : ¬ (c.toNat : Int) = 48) : badB (c :: t) = false := by
 have : ¬ c = 48 := by rintro rfl; exact h rfl
 simp [badB, this]
set_option maxHeartbeats 1600000 in
theorem parse_long (l : List UInt8) (w : World) (hl : 64 < l.length) (h2 : l.length ≤ 1073741824) : Calls Tryz.prog 123 #[.string ⟨l.toArray⟩] w (PRes w (parseL l)) := by
 have hr := Lib.hid (show parseL l = none by rw [parseL, if_pos hl])
 go_enter Tryz.func123, Tryz.ntmps123
 go_wp2
 refine bodyPost_ret (v := .tuple #[.agg #[.bool false, .string ⟨#[]⟩, .string ⟨#[]⟩, .string ⟨#[]⟩], .bool false]) (by simp [results, Tryz.results123, go_sem]) rfl ?_
 exact pres_none ((Below.refl _ _).alloc (Nat.le_refl _) _) hr.out rfl
set_option maxHeartbeats 1600000 in
theorem parse_any (l : List UInt8) (w : World) (hl : ¬ 64 < l.length) : Calls Tryz.prog 123 #[.string ⟨l.toArray⟩] w (PRes w (parseL l)) := by
 have h0 : l.length ≤ 64 := by omega
 generalize hs : unsign l = s
 generalize hb : neg l = b
 have hcut := cut_sign l
 rw [hs, hb] at hcut
 have hsl := unsign_length l
 rw [hs] at hsl
 have hsd := digs_rest s
 have HC := Lib.hid hcut
 have hR : parseL l = parseTail b s := by rw [parseL, if_neg hl, hs, hb]
 have HR := Lib.hid hR
 clear hcut hs hb hR
 go_enter Tryz.func123, Tryz.ntmps123
 go_upto_region 5 with (first | (go_at_call 133; refine (HC.out _).mono ?_; rintro e w' ⟨rfl, rfl⟩) | (go_at_call 146; refine (figures_any s _ (by omega)).mono ?_; rintro e w' ⟨rfl, rfl⟩))
 generalize hx : digs s = x
 have HX := Lib.hid hx
 rw [hx] at hsd
 clear hx
 go_cut [0, 39] (fun u0 u39 wx => u0 = .string ⟨(rest s).toArray⟩ ∧ u39 = .bool (badB x) ∧ wx = (w.alloc (.cells #[.bool b, .string ⟨x.toArray⟩, .string ⟨#[]⟩, .string ⟨#[]⟩] 158)).drew)
 case first =>
  match x with
  | [] =>
   go_wp2
   go_meet
   case rel => exact ⟨rfl, rfl, rfl⟩
  | [c] =>
   have hc : badB [c] = false := by simp [badB]
   have HB := Lib.hid hc
   clear hc
   by_cases h : (c.toNat : Int) = 48
   all_goals
    go_wp2
    go_meet
    case rel => exact ⟨rfl, by rw [HB.out], rfl⟩
  | c :: d :: t =>
   have hl2 : (1 : Int) < ((c :: d :: t).length : Int) := by simp only [List.length_cons]; omega
   by_cases h : (c.toNat : Int) = 48
   ·have HB := Lib.hid (badB_48 (d := d) (t := t) h)
    go_wp2
    go_meet
    case rel => exact ⟨rfl, by rw [HB.out]; simp; omega, rfl⟩
   ·have HB := Lib.hid (badB_n48 (t := d :: t) h)
    go_wp2
    go_meet
    case rel => exact ⟨rfl, by rw [HB.out], rfl⟩
 case rest =>
  obtain ⟨rfl, rfl, rfl⟩ := hcut
  cases hbad : badB x
  ·have hR : parseL l = parseDot b x (rest s) := by rw [HR.out, parseTail, HX.out, if_neg (by simp [hbad])]
   clear HR HX hbad HC
   have HR := Lib.hid hR
   clear hR
   generalize hy : rest s = y at *
   clear hy
   generalize hd : (y.head? == some 46) = q
   generalize hz : undot y = z
   have hcut := cut_dot y
   rw [hd, hz] at hcut
   have HC := Lib.hid hcut
   have HD := Lib.hid hd
   have HZ := Lib.hid hz
   have hzl : z.length ≤ y.length := by rw [← hz]; exact undot_length y
   clear hcut hd hz
   have hn1 : ∀ (w : World) (n : Nat) (a : Addr) (v : Value), (w.drewN n).setCell a v = (w.setCell a v).drewN n := fun _ _ _ _ => rfl
   have hn2 : ∀ (w : World) (n : Nat), (w.drewN n).drew = w.drewN (n + 1) := fun _ _ => rfl
   go_upto_if 46 with (go_at_call 133; refine (HC.out _).mono ?_; rintro e w' ⟨rfl, rfl⟩)
   go_cut [0] (fun u0 wx => ∃ bh y' n, u0 = .string ⟨List.toArray y'⟩ ∧ wx = (w.alloc (.cells #[.bool b, .string ⟨x.toArray⟩, .string ⟨List.toArray bh⟩, .string ⟨#[]⟩] 158)).drewN n ∧ y'.length ≤ y.length ∧ parseL l = parseExp b x bh y')
   case first =>
    cases q
    ·go_wp2
     go_meet
     case rel => exact ⟨[], y, 1, rfl, rfl, Nat.le_refl _, by rw [HR.out]; exact parseDot_no HD.out⟩
    ·have hzd := digs_rest z
     by_cases he : digs z = []
     ·have hR := Lib.hid (show parseL l = none by rw [HR.out, parseDot, if_pos HD.out, HZ.out, if_pos he])
      go_wp2_with (go_at_call 146; refine (figures_any z _ (by omega)).mono ?_; rintro e w' ⟨rfl, rfl⟩)
      refine bodyPost_ret (v := .tuple #[.agg #[.bool false, .string ⟨#[]⟩, .string ⟨#[]⟩, .string ⟨#[]⟩], .bool false]) (by simp [results, Tryz.results123, go_sem]) rfl ?_
      exact pres_none ((((Below.refl _ _).alloc (Nat.le_refl _) _).drew).drew) hR.out rfl
     ·have he2 : (digs z).isEmpty = false := by simpa using he
      have hR := Lib.hid (show parseL l = parseExp b x (digs z) (rest z) by rw [HR.out, parseDot, if_pos HD.out, HZ.out, if_neg he])
      have hzz : (rest z).length ≤ y.length := by omega
      go_wp2_with (go_at_call 146; refine (figures_any z _ (by omega)).mono ?_; rintro e w' ⟨rfl, rfl⟩)
      go_meet
      case rel => exact ⟨digs z, rest z, 2, rfl, rfl, hzz, hR.out⟩
   case rest =>
    obtain ⟨bh, y', n, rfl, rfl, hy', hR2⟩ := hcut
    clear HR HC HD HZ
    have HR := Lib.hid hR2
    clear hR2
    match y', hy', HR with
    | [], _, HR =>
     go_wp2
     refine bodyPost_ret (v := .tuple #[.agg #[.bool b, .string ⟨x.toArray⟩, .string ⟨bh.toArray⟩, .string ⟨#[]⟩], .bool true]) (by simp [results, Tryz.results123, go_sem]) rfl ?_
     exact pres_some ⟨b, x, bh, []⟩ (below_drewN ((Below.refl _ _).alloc (Nat.le_refl _) _) n) HR.out rfl
    | c :: t, hy', HR =>
     go_upto_region 14 with fail
     go_cut [67] (fun u67 wx => u67 = .bool (badE c) ∧ wx = (w.alloc (.cells #[.bool b, .string ⟨x.toArray⟩, .string ⟨List.toArray bh⟩, .string ⟨#[]⟩] 158)).drewN n)
     case first =>
      have hcl : (0 : Int) < ((c :: t).length : Int) := by simp only [List.length_cons]; omega
      by_cases h1 : (c.toNat : Int) = 101
      ·have hE := Lib.hid (badE_101 h1)
       go_wp2
       go_meet
       case rel => exact ⟨by rw [hE.out], rfl⟩
      ·by_cases h2 : (c.toNat : Int) = 69
       all_goals
        go_wp2
        go_meet
        case rel => exact ⟨badE_val c h1, rfl⟩
     case rest =>
      obtain ⟨rfl, rfl⟩ := hcut
      cases hbe : badE c
      ·have hR := Lib.hid (show parseL l = parsePow b x bh (signOf t) (behindSign t) by rw [HR.out]; exact parseExp_ok hbe)
       clear HR hbe
       have hcl : (1 : Int) ≤ ((c :: t).length : Int) := by simp only [List.length_cons]; omega
       have htl : t.length ≤ 64 := by simp only [List.length_cons] at hy'; omega
       go_upto_region 18 with fail
       rw [show (⟨(c :: t).toArray⟩ : ByteArray).extract 1 (t.length + 1) = ⟨t.toArray⟩ from by rw [ba_extract]; simp]
       go_cut [82] (fun u82 wx => u82 = .bool (isSign t) ∧ wx = (w.alloc (.cells #[.bool b, .string ⟨x.toArray⟩, .string ⟨List.toArray bh⟩, .string ⟨#[]⟩] 158)).drewN n)
       case first =>
        match t with
        | [] =>
         go_wp2
         go_meet
         case rel => exact ⟨rfl, rfl⟩
        | d :: t' =>
         have hdl : (0 : Int) < ((d :: t').length : Int) := by simp only [List.length_cons]; omega
         by_cases h1 : (d.toNat : Int) = 43
         all_goals
          go_wp2
          go_meet
          case rel => first | exact ⟨sign_val d t', rfl⟩ | exact ⟨by rw [isSign_43 h1], rfl⟩
       case rest =>
        obtain ⟨rfl, rfl⟩ := hcut
        go_upto_if 82 with fail
        go_cut [0, 6] (fun u0 u6 wx => ∃ m, u0 = .string ⟨(behindSign t).toArray⟩ ∧ u6 = .string ⟨(signOf t).toArray⟩ ∧ wx = (w.alloc (.cells #[.bool b, .string ⟨x.toArray⟩, .string ⟨List.toArray bh⟩, .string ⟨#[]⟩] 158)).drewN m)
        case first =>
         match t with
         | [] =>
          go_wp2
          go_meet
          case rel => exact ⟨n, rfl, rfl, rfl⟩
         | d :: t' =>
          have hdl : (1 : Int) ≤ ((d :: t').length : Int) := by simp only [List.length_cons]; omega
          cases hsg : isSign (d :: t')
          ·have hq := Lib.hid (sign_no hsg)
           go_wp2
           go_meet
           case rel => exact ⟨n, by rw [hq.out.1], by rw [hq.out.2], rfl⟩
          ·have hq := Lib.hid (sign_yes hsg)
           go_wp2
           go_region
           go_wp2
           go_meet
           case rel =>
            rw [hq.out.1, hq.out.2]
            exact ⟨n + 1, by rw [ba_extract]; simp, by rw [ba_extract]; simp, rfl⟩
        case rest =>
         obtain ⟨m, rfl, rfl, rfl⟩ := hcut
         generalize hbs : behindSign t = r
         have hbl : (behindSign t).length ≤ t.length := behindSign_length t
         rw [hbs] at hbl
         have HBS := Lib.hid hbs
         clear hbs
         generalize hsg : signOf t = sg
         have HSG := Lib.hid hsg
         clear hsg
         have hrd := digs_rest r
         have hsl2 : sg.length ≤ 1 := by rw [← HSG.out]; exact signOf_length t
         by_cases he : digs r = []
         ·have hN := Lib.hid (show parseL l = none by rw [hR.out, HBS.out, parsePow, if_pos (.inl he)])
          go_wp2_with (go_at_call 146; refine (figures_any r _ (by omega)).mono ?_; rintro e w' ⟨rfl, rfl⟩)
          refine bodyPost_ret (v := .tuple #[.agg #[.bool false, .string ⟨#[]⟩, .string ⟨#[]⟩, .string ⟨#[]⟩], .bool false]) (by simp [results, Tryz.results123, go_sem]) rfl ?_
          exact pres_none (below_drewN ((Below.refl _ _).alloc (Nat.le_refl _) _) _) hN.out rfl
         ·have he2 : (digs r).isEmpty = false := by simpa using he
          by_cases hr : rest r = []
          ·have hr2 : (rest r).isEmpty = true := by simpa using hr
           have hN := Lib.hid (show parseL l = some ⟨b, x, bh, sg ++ digs r⟩ by rw [hR.out, HBS.out, HSG.out, parsePow, if_neg (by simp [he, hr])])
           go_wp2_with (go_at_call 146; refine (figures_any r _ (by omega)).mono ?_; rintro e w' ⟨rfl, rfl⟩)
           refine bodyPost_ret (v := .tuple #[.agg #[.bool b, .string ⟨x.toArray⟩, .string ⟨bh.toArray⟩, .string ⟨(sg ++ digs r).toArray⟩], .bool true]) (by simp [results, Tryz.results123, go_sem]; exact ba_append _ _) rfl ?_
           exact pres_some ⟨b, x, bh, sg ++ digs r⟩ (below_drewN ((Below.refl _ _).alloc (Nat.le_refl _) _) _) hN.out rfl
          ·have hr2 : (rest r).isEmpty = false := by simpa using hr
           have hN := Lib.hid (show parseL l = none by rw [hR.out, HBS.out, parsePow, if_pos (.inr hr)])
           go_wp2_with (go_at_call 146; refine (figures_any r _ (by omega)).mono ?_; rintro e w' ⟨rfl, rfl⟩)
           refine bodyPost_ret (v := .tuple #[.agg #[.bool false, .string ⟨#[]⟩, .string ⟨#[]⟩, .string ⟨#[]⟩], .bool false]) (by simp [results, Tryz.results123, go_sem]) rfl ?_
           exact pres_none (below_drewN ((Below.refl _ _).alloc (Nat.le_refl _) _) _) hN.out rfl
      ·have hR := Lib.hid (show parseL l = none by rw [HR.out]; exact parseExp_bad hbe)
       go_wp2
       refine bodyPost_ret (v := .tuple #[.agg #[.bool false, .string ⟨#[]⟩, .string ⟨#[]⟩, .string ⟨#[]⟩], .bool false]) (by simp [results, Tryz.results123, go_sem]) rfl ?_
       exact pres_none (below_drewN ((Below.refl _ _).alloc (Nat.le_refl _) _) n) hR.out rfl
  ·have hR := Lib.hid (show parseL l = none by rw [HR.out, parseTail, HX.out, if_pos hbad])
   go_wp2
   refine bodyPost_ret (v := .tuple #[.agg #[.bool false, .string ⟨#[]⟩, .string ⟨#[]⟩, .string ⟨#[]⟩], .bool false]) (by simp [results, Tryz.results123, go_sem]) rfl ?_
   exact pres_none (((Below.refl _ _).alloc (Nat.le_refl _) _).drew) hR.out rfl
end Go.Proofs.YtoimjnmhinfbkaaGreatDoor

namespace Go.Proofs.YtoimjnmhinfbkaaGreatDoor
open Go.RowKit
set_option maxRecDepth 100000
/-- what the library's own variables hold. -/
def Glob (w : World) : Prop := (∃ te pe, w.cell? ⟨1, 0, none⟩ = some (.iface te pe)) ∧ (∃ te pe, w.cell? ⟨2, 0, none⟩ = some (.iface te pe)) ∧
 Lib.TabIs Tryz.prog w "internal/strconv.uint64pow10" .u64 Lib.pow10Tab ∧ Lib.Utf8Tabs 5 6 w
theorem gPow : Tryz.prog.globalNamed "internal/strconv.uint64pow10" = some 3 := by kernel_rfl
theorem Glob.keep {w w' : World} (h : Glob w) (hk : ∀ b, b < w.heap.size → b < 10 → w'.heap[b]? = w.heap[b]?) : Glob w' := by
 obtain ⟨⟨t1, p1, h1⟩, ⟨t2, p2, h2⟩, h3, h4, h5⟩ := h
 have key : ∀ b o v, b < 10 → w.cell? ⟨b, o, none⟩ = some v → w'.cell? ⟨b, o, none⟩ = some v := fun b o v hb hc =>
  (cell_of_heap (hk b (World.block_lt_of_cell? w _ hc) hb)).trans hc
 refine ⟨⟨t1, p1, key _ _ _ (by omega) h1⟩, ⟨t2, p2, key _ _ _ (by omega) h2⟩, ?_, fun c hc => key _ _ _ (by omega) (h4 c hc), fun i hi => ⟨key _ _ _ (by omega) (h5 i hi).1, key _ _ _ (by omega) (h5 i hi).2⟩⟩
 unfold Lib.TabIs World.var? at h3 ⊢
 rw [gPow] at h3 ⊢
 have hlt : 3 < w.heap.size := by
  apply Classical.byContradiction
  intro hn
  have : w.heap[3]? = none := Array.getElem?_eq_none (by omega)
  simp [this] at h3
 simp only [Option.bind_some] at h3 ⊢
 rw [hk 3 hlt (by omega)]
 exact h3
theorem Glob.below {w w' : World} (h : Glob w) (hb : Below w.heap.size w w') : Glob w' := h.keep fun b hb' _ => hb.block b hb'
theorem asks_long (l : List UInt8) (w : World) (h : 64 < l.length) (h2 : l.length ≤ 1073741824) : Calls Tryz.prog 95 #[.string ⟨l.toArray⟩] w fun e w' =>
  e = .returned (.tuple #[.agg #[.bool false, .string ⟨#[]⟩, .string ⟨#[]⟩, .string ⟨#[]⟩], .iface 35 (.int .i64 3)]) ∧ Below w.heap.size w w' := by
 have hp : parseL l = none := by rw [parseL, if_pos h]
 have HP := Lib.hid hp
 clear hp
 go_enter Tryz.func95, Tryz.ntmps95
 go_wp2_with (go_at_call 123; refine (parse_long l _ h h2).mono ?_; rw [HP.out]; rintro e w' ⟨hb, rfl⟩; obtain ⟨hc1, hf1⟩ := bcell hb; have hz1 : w.heap.size < w'.heap.size := (by have := hb.size; simp at this; omega))
 refine bodyPost_ret (v := .tuple #[.agg #[.bool false, .string ⟨#[]⟩, .string ⟨#[]⟩, .string ⟨#[]⟩], .iface 35 (.int .i64 3)]) (by simp [results, Tryz.results95, go_sem, hc1, hz1]) rfl ⟨rfl, ?_⟩
 (repeat (first | with_reducible refine Below.alloc ?_ (by simp; omega) _ | with_reducible refine Below.setCell ?_ (by simp) _))
 exact (((Below.refl _ _).alloc (Nat.le_refl _) _)).trans (hb.mono (by simp))
theorem asks_form (l : List UInt8) (w : World) (h : ¬ 64 < l.length) (hp : parseL l = none) : Calls Tryz.prog 95 #[.string ⟨l.toArray⟩] w fun e w' =>
  e = .returned (.tuple #[.agg #[.bool false, .string ⟨#[]⟩, .string ⟨#[]⟩, .string ⟨#[]⟩], .iface 35 (.int .i64 2)]) ∧ Below w.heap.size w w' := by
 have HP := Lib.hid hp
 have HL := Lib.hid h
 have hl : l.length ≤ 64 := by omega
 clear hp h
 go_enter Tryz.func95, Tryz.ntmps95
 go_wp2_with (go_at_call 123; refine (parse_any l _ HL.out).mono ?_; rw [HP.out]; rintro e w' ⟨hb, rfl⟩; obtain ⟨hc1, hf1⟩ := bcell hb; have hz1 : w.heap.size < w'.heap.size := (by have := hb.size; simp at this; omega))
 refine bodyPost_ret (v := .tuple #[.agg #[.bool false, .string ⟨#[]⟩, .string ⟨#[]⟩, .string ⟨#[]⟩], .iface 35 (.int .i64 2)]) (by simp [results, Tryz.results95, go_sem, hc1, hz1]) rfl ⟨rfl, ?_⟩
 (repeat (first | with_reducible refine Below.alloc ?_ (by simp; omega) _ | with_reducible refine Below.setCell ?_ (by simp) _))
 exact (((Below.refl _ _).alloc (Nat.le_refl _) _)).trans (hb.mono (by simp))
theorem asks_ok (l : List UInt8) (p : Parts) (w : World) (h : ¬ 64 < l.length) (hp : parseL l = some p) : Calls Tryz.prog 95 #[.string ⟨l.toArray⟩] w fun e w' =>
  e = .returned (.tuple #[.agg #[.bool p.below, .string ⟨p.ahead.toArray⟩, .string ⟨p.behind.toArray⟩, .string ⟨p.power.toArray⟩], .nilIface]) ∧ Below w.heap.size w w' := by
 have HP := Lib.hid hp
 have HL := Lib.hid h
 have hl : l.length ≤ 64 := by omega
 clear hp h
 go_enter Tryz.func95, Tryz.ntmps95
 go_wp2_with (go_at_call 123; refine (parse_any l _ HL.out).mono ?_; rw [HP.out]; rintro e w' ⟨hb, rfl⟩; obtain ⟨hc1, hf1⟩ := bcell hb; have hz1 : w.heap.size < w'.heap.size := (by have := hb.size; simp at this; omega))
 refine bodyPost_ret (v := .tuple #[.agg #[.bool p.below, .string ⟨p.ahead.toArray⟩, .string ⟨p.behind.toArray⟩, .string ⟨p.power.toArray⟩], .nilIface]) (by simp [results, Tryz.results95, go_sem, hc1, hz1]) rfl ⟨rfl, ?_⟩
 (repeat (first | with_reducible refine Below.alloc ?_ (by simp; omega) _ | with_reducible refine Below.setCell ?_ (by simp) _))
 exact (((Below.refl _ _).alloc (Nat.le_refl _) _)).trans (hb.mono (by simp))
theorem atoi_ok (l : List UInt8) (v : Int) (w : World) (hl : l.length ≤ 1073741824) (h : Lib.atoiAll l = .ok v) : Calls Tryz.prog 147 #[.string ⟨l.toArray⟩] w fun e w' =>
  e = .returned (.tuple #[.int .i64 v, .nilIface]) ∧ Below w.heap.size w w' :=
 (Tryz.strconv_Atoi_ok ⟨l.toArray⟩ (by show l.length ≤ _; omega) v h w).mono fun e w' ⟨h1, h2⟩ => ⟨h1, by
  rcases h2 with rfl | ⟨t, rfl⟩
  ·exact Below.refl _ _
  ·exact Lib.bytesWorld_below _ _ _⟩
theorem atoi_bad (l : List UInt8) (w : World) (hg : Glob w) (hl : l.length ≤ 1073741824) (h : ∀ v, Lib.atoiAll l ≠ .ok v) : Calls Tryz.prog 147 #[.string ⟨l.toArray⟩] w fun e w' =>
  ∃ n N, e = .returned (.tuple #[.int .i64 n, .iface 238 (.pointer (some ⟨N, 0, none⟩))]) ∧ Below w.heap.size w w' := by
 obtain ⟨⟨ts, ps, hs⟩, ⟨tr, pr, hr⟩, -⟩ := hg
 cases ha : Lib.atoiAll l
 ·exact absurd ha (h _)
 ·refine (Tryz.strconv_Atoi_syntax ⟨l.toArray⟩ (by show l.length ≤ _; omega) ha _ w hs (.inr ⟨_, _, rfl⟩)).mono ?_
  rintro e w' ⟨N, h1, h2, h3, h4⟩
  exact ⟨_, N, h1, h4⟩
 ·refine (Tryz.strconv_Atoi_range ⟨l.toArray⟩ (by show l.length ≤ _; omega) ha _ w hr (.inr ⟨_, _, rfl⟩)).mono ?_
  rintro e w' ⟨N, h1, h2, h3, h4⟩
  exact ⟨_, N, h1, h4⟩
/-- an exponent's number, or one that is as good. -/
def expo (pw : List UInt8) : Int :=
 if pw = [] then 0 else match Lib.atoiAll pw with
 | .ok n => if 128 < n ∨ n < -128 then (if (pw.head? == some 45) = true then -128 else 128) else n
 | _ => if (pw.head? == some 45) = true then -128 else 128
theorem expo_range (pw : List UInt8) : -128 ≤ expo pw ∧ expo pw ≤ 128 := by
 unfold expo
 split
 ·omega
 ·split
  ·split
   ·split <;> omega
   ·omega
  ·split <;> omega
theorem hasPrefix_one (l : List UInt8) (c : UInt8) : Lib.hasPrefix l [c] = (l.head? == some c) := by
 cases l with
 | nil => rfl
 | cons a t =>
  by_cases h : c = a
  ·subst h; simp [Lib.hasPrefix, List.isPrefixOf]
  ·have h2 : (c == a) = false := by simpa using h
   have h3 : (a == c) = false := by rw [BEq.comm]; exact h2
   simp only [Lib.hasPrefix, List.isPrefixOf, h2, List.head?_cons, Option.some_beq_some, h3, Bool.false_and]
theorem hasPrefix_any (l : List UInt8) (c : UInt8) (w : World) :
  Calls Tryz.prog 148 #[.string ⟨l.toArray⟩, .string ⟨#[c]⟩] w fun e w' => e = .returned (.bool (l.head? == some c)) ∧ w' = w :=
 (Tryz.strings_HasPrefix ⟨l.toArray⟩ ⟨#[c]⟩ w).mono fun e w' ⟨h1, h2⟩ => ⟨by rw [h1]; exact congrArg (fun b => Ending.returned (.bool b)) (hasPrefix_one l c), h2⟩
set_option maxHeartbeats 800000 in
theorem exponent_any (b : Bool) (x y pw : List UInt8) (w : World) (hg : Glob w) (hl : pw.length ≤ 1073741824) :
  Calls Tryz.prog 124 #[.agg #[.bool b, .string ⟨x.toArray⟩, .string ⟨y.toArray⟩, .string ⟨pw.toArray⟩]] w fun e w' => e = .returned (.int .i64 (expo pw)) ∧ Below w.heap.size w w' := by
 by_cases h0 : pw = []
 ·subst h0
  go_enter Tryz.func124, Tryz.ntmps124
  go_wp2
  go_ret
  exact ⟨rfl, (Below.refl _ _).alloc (Nat.le_refl _) _⟩
 ·have he : pw.isEmpty = false := by simpa using h0
  have HG := Lib.hid (show Glob (w.alloc (.cells #[.bool b, .string ⟨x.toArray⟩, .string ⟨y.toArray⟩, .string ⟨pw.toArray⟩] 158)) from hg.below ((Below.refl _ _).alloc (Nat.le_refl _) _))
  clear hg
  by_cases hok : ∃ v, Lib.atoiAll pw = .ok v
  ·obtain ⟨v, hv⟩ := hok
   have HV := Lib.hid hv
   clear hv
   by_cases hbig : 128 < v ∨ v < -128
   ·have hE := Lib.hid (show expo pw = if (pw.head? == some 45) = true then -128 else 128 by rw [expo, if_neg h0, HV.out]; simp only; rw [if_pos hbig])
    cases hh : (pw.head? == some 45)
    all_goals
     have hE2 := Lib.hid hE.out
     rw [hh] at hE2
     rcases hbig with hb1 | hb1
     all_goals
      go_enter Tryz.func124, Tryz.ntmps124
      go_wp2_with (first | (go_at_call 147; refine (atoi_ok pw v _ hl HV.out).mono ?_; rintro e w' ⟨rfl, hb⟩; obtain ⟨hc1, hf1⟩ := bcell hb) | (go_at_call 148; refine (hasPrefix_any _ _ _).mono ?_; rintro e w' ⟨rfl, rfl⟩))
      go_ret
      exact ⟨by rw [hE2.out]; rfl, ((Below.refl _ _).alloc (Nat.le_refl _) _).trans (hb.mono (by simp))⟩
   ·have hE := Lib.hid (show expo pw = v by rw [expo, if_neg h0, HV.out]; simp only; rw [if_neg hbig])
    have hv1 : v ≤ 128 := by omega
    have hv2 : -128 ≤ v := by omega
    clear hbig
    go_enter Tryz.func124, Tryz.ntmps124
    go_wp2_with (go_at_call 147; refine (atoi_ok pw v _ hl HV.out).mono ?_; rintro e w' ⟨rfl, hb⟩)
    go_ret
    exact ⟨by rw [hE.out]; rfl, ((Below.refl _ _).alloc (Nat.le_refl _) _).trans (hb.mono (by simp))⟩
  ·have hbad := Lib.hid (show ∀ v, Lib.atoiAll pw ≠ .ok v from fun v hv => hok ⟨v, hv⟩)
   have hE := Lib.hid (show expo pw = if (pw.head? == some 45) = true then -128 else 128 by
    rw [expo, if_neg h0]
    split
    ·rename_i n hn; exact absurd hn (hbad.out n)
    ·rfl)
   clear hok
   cases hh : (pw.head? == some 45)
   all_goals
    have hE2 := Lib.hid hE.out
    rw [hh] at hE2
    go_enter Tryz.func124, Tryz.ntmps124
    go_wp2_with (first | (go_at_call 147; refine (atoi_bad pw _ HG.out hl hbad.out).mono ?_; rintro e w' ⟨n, N, rfl, hb⟩; obtain ⟨hc1, hf1⟩ := bcell hb) | (go_at_call 148; refine (hasPrefix_any _ _ _).mono ?_; rintro e w' ⟨rfl, rfl⟩))
    go_ret
    exact ⟨by rw [hE2.out]; rfl, ((Below.refl _ _).alloc (Nat.le_refl _) _).trans (hb.mono (by simp))⟩
theorem trim_any (l : List UInt8) (w : World) (hl : l.length ≤ 1073741824) : Calls Tryz.prog 125 #[.string ⟨l.toArray⟩, .string ⟨#[48]⟩] w fun e w' =>
  e = .returned (.string ⟨(Lib.trimB l 48).toArray⟩) ∧ Below w.heap.size w w' :=
 (Tryz.strings_Trim_one ⟨l.toArray⟩ 48 (by decide) w (by show l.length ≤ _; omega)).mono fun e w' ⟨h1, h2⟩ => ⟨h1, by
  rcases h2 with rfl | rfl
  ·exact Below.refl _ _
  ·exact (Below.refl _ _).drew⟩
theorem trimLeft_any (l : List UInt8) (w : World) : Calls Tryz.prog 126 #[.string ⟨l.toArray⟩, .string ⟨#[48]⟩] w fun e w' =>
  e = .returned (.string ⟨(Lib.trimLeftB l 48).toArray⟩) ∧ w' = w :=
 Tryz.strings_TrimLeft_one ⟨l.toArray⟩ 48 (by decide) w
theorem repeat_any (c : Nat) (w : World) (hc : c ≤ 1073741824) : Calls Tryz.prog 127 #[.string ⟨#[48]⟩, .int .i64 c] w fun e w' =>
  e = .returned (.string ⟨(Lib.repeatL [48] c).toArray⟩) ∧ Below w.heap.size w w' :=
 Tryz.strings_Repeat ⟨#[48]⟩ c w (by omega) (by show 1 * c ≤ _; omega)
def Parts.all (p : Parts) : List UInt8 := p.ahead ++ p.behind
def Parts.point (p : Parts) : Int := p.ahead.length + expo p.power
def Parts.cut (p : Parts) : Nat := (min (max p.point 0) p.all.length).toNat
/-- the figures of a whole number. -/
def wholeL (p : Parts) : Option (List UInt8) :=
 if Lib.trimB (p.all.drop p.cut) 48 = [] then
  if Lib.trimLeftB (p.all.take p.cut) 48 = [] then some [48]
  else some (Lib.trimLeftB (p.all.take p.cut) 48 ++ Lib.repeatL [48] (p.point - p.cut).toNat)
 else none
def WRes (w : World) (r : Option (List UInt8)) (e : Ending) (w' : World) : Prop :=
 Below w.heap.size w w' ∧ match r with | some l => e = .returned (.tuple #[.string ⟨l.toArray⟩, .bool true]) | none => e = .returned (.tuple #[.string ⟨#[]⟩, .bool false])
theorem wres_none {w w' : World} {e : Ending} {r : Option (List UInt8)} (hr : r = none) (he : e = .returned (.tuple #[.string ⟨#[]⟩, .bool false])) (hb : Below w.heap.size w w') : WRes w r e w' := by
 subst hr; exact ⟨hb, he⟩
theorem wres_some {w w' : World} {e : Ending} {r : Option (List UInt8)} (l : List UInt8) (hr : r = some l) (he : e = .returned (.tuple #[.string ⟨l.toArray⟩, .bool true])) (hb : Below w.heap.size w w') : WRes w r e w' := by
 subst hr; exact ⟨hb, he⟩
theorem trimLeftB_length (l : List UInt8) (c : UInt8) : (Lib.trimLeftB l c).length ≤ l.length := by
 induction l with
 | nil => simp [Lib.trimLeftB]
 | cons a l ih =>
  simp only [Lib.trimLeftB, List.dropWhile_cons] at ih ⊢
  split
  ·simp only [List.length_cons]; omega
  ·simp
set_option maxHeartbeats 800000 in
theorem whole_any (p : Parts) (w : World) (hg : Glob w) (h1 : p.ahead.length ≤ 1000) (h2 : p.behind.length ≤ 1000) (h3 : p.power.length ≤ 1000) :
  Calls Tryz.prog 96 #[.agg #[.bool p.below, .string ⟨p.ahead.toArray⟩, .string ⟨p.behind.toArray⟩, .string ⟨p.power.toArray⟩]] w (WRes w (wholeL p)) := by
 obtain ⟨b, x, y, pw⟩ := p
 have HG := Lib.hid (show Glob (w.alloc (.cells #[.bool b, .string ⟨x.toArray⟩, .string ⟨y.toArray⟩, .string ⟨pw.toArray⟩] 158)) from hg.below ((Below.refl _ _).alloc (Nat.le_refl _) _))
 clear hg
 have hex := expo_range pw
 have hxe := exponent_any b x y pw
 generalize hev : expo pw = ev at hex hxe
 have HEX := Lib.hid hxe
 have HEV := Lib.hid hev
 clear hxe hev
 simp only at h1 h2 h3 ⊢
 have hx0 : (0 : Int) ≤ (x.length : Int) := Int.natCast_nonneg _
 have hx1 : (x.length : Int) ≤ 1000 := by omega
 obtain ⟨he0, he1⟩ := hex
 go_enter Tryz.func96, Tryz.ntmps96
 go_upto_region 2 with fail
 rw [ba_append]
 go_region_held3 (fun w' => w'.cell? ⟨w.heap.size, 0, none⟩ = some (.bool b) ∧ w'.cell? ⟨w.heap.size, 1, none⟩ = some (.string ⟨x.toArray⟩) ∧ w'.cell? ⟨w.heap.size, 2, none⟩ = some (.string ⟨y.toArray⟩) ∧ w'.cell? ⟨w.heap.size, 3, none⟩ = some (.string ⟨pw.toArray⟩))
  (first | go_keep | (refine ⟨?_, ?_, ?_, ?_⟩ <;> (rw [hc1 _ _ (by simp)]; simp [go_sem])))
  ((first | (go_at_call 124; refine (HEX.out _ (by exact HG.out.keep fun _ _ _ => rfl) (by omega)).mono ?_; rintro e w1 ⟨rfl, hb1⟩; obtain ⟨hc1, hf1⟩ := bcell hb1)))
 have hwr : IntKind.i64.wrap ((x.length : Int) + ev) = (x.length : Int) + ev := IntWalk.i64_in _ (by omega)
 rw [hwr]
 clear hwr
 obtain ⟨pt, hpt⟩ : ∃ pt : Int, (x.length : Int) + ev = pt := ⟨_, rfl⟩
 obtain ⟨ct, hct⟩ : ∃ ct : Nat, min (max pt 0) ((x.length : Int) + (y.length : Int)) = ct := ⟨(min (max pt 0) ((x.length : Int) + (y.length : Int))).toNat, by omega⟩
 have hc1 : ct ≤ x.length + y.length := by omega
 have hc2 : 0 ≤ pt → (ct : Int) ≤ pt := by omega
 have hc3 : pt < 0 → ct = 0 := by omega
 have hpr : -128 ≤ pt ∧ pt ≤ 1128 := by omega
 have hW : wholeL ⟨b, x, y, pw⟩ = if Lib.trimB ((x ++ y).drop ct) 48 = [] then
   if Lib.trimLeftB ((x ++ y).take ct) 48 = [] then some [48] else some (Lib.trimLeftB ((x ++ y).take ct) 48 ++ Lib.repeatL [48] (pt - ct).toNat) else none := by
  have e1 : (Parts.mk b x y pw).point = pt := by show (x.length : Int) + expo pw = pt; rw [HEV.out]; exact hpt
  have e2 : (Parts.mk b x y pw).cut = ct := by
   show (min (max (Parts.point _) 0) (Parts.all _).length).toNat = ct
   rw [e1]
   show (min (max pt 0) (((x ++ y).length : Nat) : Int)).toNat = ct
   rw [List.length_append]
   omega
  rw [wholeL, e2, e1]; rfl
 rw [hpt]
 have HW := Lib.hid hW
 have HCT := Lib.hid hct
 have HC3 := Lib.hid hc3
 have HC2 := Lib.hid hc2
 clear hW hct hpt hc3 hc2
 have b1 : Below w.heap.size w w1 := ((Below.refl _ _).alloc (Nat.le_refl _) _).trans (Below.mono ⟨hb1.os, hb1.tape, hb1.output, hb1.size, hb1.block⟩ (by simp))
 have HB1 := Lib.hid b1
 clear b1 hb1
 obtain ⟨hp0, hp1⟩ := hpr
 go_wp2_with fail
 rw [HCT.out, Int.toNat_natCast]
 rw [show (⟨(x ++ y).toArray⟩ : ByteArray).extract ct (x.length + y.length) = ⟨((x ++ y).drop ct).toArray⟩ from by
  rw [ba_extract, List.take_of_length_le]; simp]
 refine (trim_any _ _ (by simp; omega)).mono ?_
 rintro e w2 ⟨rfl, hb2⟩
 have b2 := Lib.hid (HB1.out.trans (hb2.mono (by have := HB1.out.size; omega)))
 clear hb2
 generalize htb : Lib.trimB ((x ++ y).drop ct) 48 = tb
 generalize htk : Lib.trimLeftB ((x ++ y).take ct) 48 = tk
 have HW2 := Lib.hid HW.out
 rw [htb, htk] at HW2
 have htl := trimLeft_any ((x ++ y).take ct)
 rw [htk] at htl
 have HTL := Lib.hid htl
 have hz : tk.length ≤ 2000 := by rw [← htk]; have := trimLeftB_length ((x ++ y).take ct) 48; simp at this; omega
 have hneg : pt < 0 → tk = [] := fun h => by rw [← htk, HC3.out h]; rfl
 have HNEG := Lib.hid hneg
 clear htb htk htl hneg HW
 have hct0 : (0 : Int) ≤ (ct : Int) := Int.natCast_nonneg _
 have hct1 : (ct : Int) ≤ ((x.length : Int) + (y.length : Int)) := by omega
 by_cases hb : tb = []
 ·subst hb
  go_wp2_with fail
  rw [show (⟨(x ++ y).toArray⟩ : ByteArray).extract 0 ct = ⟨((x ++ y).take ct).toArray⟩ from by rw [ba_extract]; simp]
  refine (HTL.out _).mono ?_
  rintro e w3 ⟨rfl, rfl⟩
  by_cases hk : tk = []
  ·subst hk
   have HR := Lib.hid (show wholeL ⟨b, x, y, pw⟩ = some [48] by rw [HW2.out]; simp)
   go_wp2
   go_ret2
   exact wres_some [48] HR.out rfl b2.out
  ·have hk2 : tk.isEmpty = false := by simpa using hk
   obtain ⟨q, hq⟩ : ∃ q : Nat, pt - ct = q := ⟨(pt - ct).toNat, by have := HC2.out; have := HNEG.out; by_cases h : pt < 0 <;> simp_all; omega⟩
   have HR := Lib.hid (show wholeL ⟨b, x, y, pw⟩ = some (tk ++ Lib.repeatL [48] q) by rw [HW2.out, if_pos (by simp), if_neg hk, hq, Int.toNat_natCast])
   have hq2 : q ≤ 2000 := by omega
   have hrl : (Lib.repeatL [48] q).length = q := by rw [Lib.repeatL_length]; simp
   generalize hrp : Lib.repeatL [48] q = rp at *
   have hrep := repeat_any q
   rw [hrp] at hrep
   have HREP := Lib.hid hrep
   have HQ := Lib.hid hq
   have hrl2 : rp.length ≤ 2000 := by omega
   clear hrep hq hrp hrl
   go_wp2_with fail
   rw [HQ.out]
   refine (HREP.out _ (by omega)).mono ?_
   rintro e w4 ⟨rfl, hb4⟩
   go_wp2
   go_ret2
   refine wres_some _ HR.out ?_ (b2.out.trans (hb4.mono (by have := b2.out.size; omega)))
   show Ending.returned (.tuple #[.string (⟨tk.toArray⟩ ++ ⟨rp.toArray⟩), .bool true]) = _
   rw [ba_append]
 ·have hb2 : tb.isEmpty = false := by simpa using hb
  have HR := Lib.hid (show wholeL ⟨b, x, y, pw⟩ = none by rw [HW2.out, if_neg hb])
  go_wp2
  go_ret2
  exact wres_none HR.out rfl b2.out
/-- a text's whole number, or an error's number. -/
def wholeN (l : List UInt8) : Except Int Int :=
 if 64 < l.length then .error 3 else match parseL l with
 | none => .error 2
 | some p => match wholeL p with
  | none => .error 11
  | some f => if 20 < f.length then .error 1 else match Lib.parseIntB 64 (if p.below then 45 :: f else f) with
   | .ok n => .ok n
   | _ => .error 1
def NRes (w : World) (r : Except Int Int) (e : Ending) (w' : World) : Prop :=
 Below w.heap.size w w' ∧ match r with | .ok n => e = .returned (.tuple #[.int .i64 n, .nilIface]) | .error c => e = .returned (.tuple #[.int .i64 0, .iface 35 (.int .i64 c)])
theorem nres_ok {w w' : World} {e : Ending} {r : Except Int Int} (n : Int) (hr : r = .ok n) (he : e = .returned (.tuple #[.int .i64 n, .nilIface])) (hb : Below w.heap.size w w') : NRes w r e w' := by
 subst hr; exact ⟨hb, he⟩
theorem nres_error {w w' : World} {e : Ending} {r : Except Int Int} (c : Int) (hr : r = .error c) (he : e = .returned (.tuple #[.int .i64 0, .iface 35 (.int .i64 c)])) (hb : Below w.heap.size w w') : NRes w r e w' := by
 subst hr; exact ⟨hb, he⟩
theorem parseInt_ok (l : List UInt8) (v : Int) (w : World) (hl : l.length ≤ 1073741824) (h : Lib.parseIntB 64 l = .ok v) : Calls Tryz.prog 97 #[.string ⟨l.toArray⟩, .int .i64 10, .int .i64 64] w fun e w' =>
  e = .returned (.tuple #[.int .i64 v, .nilIface]) ∧ Below w.heap.size w w' :=
 (Tryz.strconv_ParseInt_10_at64_ok ⟨l.toArray⟩ (by show l.length ≤ _; omega) v h w).mono fun e w' ⟨h1, h2⟩ => ⟨h1, by
  rcases h2 with rfl | ⟨t, rfl⟩
  ·exact Below.refl _ _
  ·exact Lib.bytesWorld_below _ _ _⟩
theorem parseInt_bad (l : List UInt8) (w : World) (hg : Glob w) (hl : l.length ≤ 1073741824) (h : ∀ v, Lib.parseIntB 64 l ≠ .ok v) : Calls Tryz.prog 97 #[.string ⟨l.toArray⟩, .int .i64 10, .int .i64 64] w fun e w' =>
  ∃ n N, e = .returned (.tuple #[.int .i64 n, .iface 238 (.pointer (some ⟨N, 0, none⟩))]) ∧ Below w.heap.size w w' := by
 obtain ⟨⟨ts, ps, hs⟩, ⟨tr, pr, hr⟩, -⟩ := hg
 cases ha : Lib.parseIntB 64 l
 ·exact absurd ha (h _)
 ·refine (Tryz.strconv_ParseInt_10_at64_syntax ⟨l.toArray⟩ (by show l.length ≤ _; omega) ha _ w hs (.inr ⟨_, _, rfl⟩)).mono ?_
  rintro e w' ⟨N, h1, h2, h3, h4⟩
  exact ⟨_, N, h1, h4⟩
 ·refine (Tryz.strconv_ParseInt_10_at64_range ⟨l.toArray⟩ (by show l.length ≤ _; omega) ha _ w hr (.inr ⟨_, _, rfl⟩)).mono ?_
  rintro e w' ⟨N, h1, h2, h3, h4⟩
  exact ⟨_, N, h1, h4⟩
theorem parseL_length {l : List UInt8} {p : Parts} (h : parseL l = some p) : p.ahead.length ≤ 1000 ∧ p.behind.length ≤ 1000 ∧ p.power.length ≤ 1000 := by
 unfold parseL at h
 split at h
 ·cases h
 rename_i h64
 have h1 := unsign_length l
 generalize neg l = b at h
 generalize unsign l = s at h h1
 have h2 := digs_rest s
 have pow : ∀ {b x y sg t q}, parsePow b x y sg t = some q → q.ahead = x ∧ q.behind = y ∧ q.power.length ≤ sg.length + t.length := by
  intro b x y sg t q hq
  unfold parsePow at hq
  split at hq
  ·cases hq
  ·cases hq
   have := digs_rest t
   refine ⟨rfl, rfl, ?_⟩
   simp only [List.length_append]; omega
 have ex : ∀ {b x y s q}, parseExp b x y s = some q → q.ahead = x ∧ q.behind = y ∧ q.power.length ≤ s.length + 1 := by
  intro b x y s q hq
  cases s with
  | nil => cases hq; exact ⟨rfl, rfl, by simp⟩
  | cons c s =>
   simp only [parseExp] at hq
   split at hq
   ·cases hq
   ·obtain ⟨h1, h2, h3⟩ := pow hq
    have := signOf_length s
    have := behindSign_length s
    refine ⟨h1, h2, ?_⟩
    simp only [List.length_cons]; omega
 unfold parseTail at h
 split at h
 ·cases h
 unfold parseDot at h
 split at h
 ·split at h
  ·cases h
  ·obtain ⟨e1, e2, e3⟩ := ex h
   have h3 := digs_rest (undot (rest s))
   have h4 := undot_length (rest s)
   rw [e1, e2]
   exact ⟨by omega, by omega, by omega⟩
 ·obtain ⟨e1, e2, e3⟩ := ex h
  rw [e1, e2]
  exact ⟨by omega, by simp, by omega⟩
set_option maxHeartbeats 1600000 in
theorem numWhole_last (l : List UInt8) (b : Bool) (x y pw f : List UInt8) (w : World) (hl : l.length ≤ 1073741824) (H64 : Hid (¬ 64 < l.length)) (HP : Hid (parseL l = some ⟨b, x, y, pw⟩)) (HG : Hid (Glob w))
  (HW : Hid (wholeL ⟨b, x, y, pw⟩ = some f)) (hp1 : x.length ≤ 1000) (hp2 : y.length ≤ 1000) (hp3 : pw.length ≤ 1000) (h20n : f.length ≤ 20) (h20' : (f.length : Int) ≤ 20)
  (hr2 : wholeN l = match Lib.parseIntB 64 (if b = true then 45 :: f else f) with | .ok n => .ok n | _ => .error 1) : Calls Tryz.prog 52 #[.string ⟨l.toArray⟩] w (NRes w (wholeN l)) := by
 by_cases hok : ∃ v, Lib.parseIntB 64 (if b = true then 45 :: f else f) = .ok v
 ·obtain ⟨v, hv⟩ := hok
  have HR := Lib.hid (show wholeN l = .ok v by rw [hr2, hv])
  have HV := Lib.hid hv
  clear hr2 hv
  cases b
  ·simp only [Bool.false_eq_true, if_false] at HV
   go_enter Tryz.func52, Tryz.ntmps52
   go_wp2_with (first | (go_at_call 95; refine (asks_ok l ⟨false, x, y, pw⟩ _ H64.out HP.out).mono ?_; rintro e w1 ⟨rfl, hb1⟩) | (go_at_call 96; refine (whole_any ⟨false, x, y, pw⟩ _ (by exact HG.out.below (hb1.alloc hb1.size _)) hp1 hp2 hp3).mono ?_; rw [HW.out]; rintro e w2 ⟨hb2, rfl⟩; obtain ⟨hc2, hf2⟩ := bcell hb2) | (go_at_call 97; refine (parseInt_ok _ v _ (by omega) HV.out).mono ?_; rintro e w3 ⟨rfl, hb3⟩))
   go_ret2
   have b2 := (hb1.alloc hb1.size (.cells #[.bool false, .string ⟨x.toArray⟩, .string ⟨y.toArray⟩, .string ⟨pw.toArray⟩] 158)).trans (hb2.mono (by have := hb1.size; simp; omega))
   exact nres_ok v HR.out rfl (b2.trans (hb3.mono b2.size))
  ·simp only [if_true] at HV
   go_enter Tryz.func52, Tryz.ntmps52
   go_wp2_with (first | (go_at_call 95; refine (asks_ok l ⟨true, x, y, pw⟩ _ H64.out HP.out).mono ?_; rintro e w1 ⟨rfl, hb1⟩) | (go_at_call 96; refine (whole_any ⟨true, x, y, pw⟩ _ (by exact HG.out.below (hb1.alloc hb1.size _)) hp1 hp2 hp3).mono ?_; rw [HW.out]; rintro e w2 ⟨hb2, rfl⟩; obtain ⟨hc2, hf2⟩ := bcell hb2) | (go_at_call 97; rw [show (⟨#[45]⟩ : ByteArray) ++ ⟨f.toArray⟩ = ⟨(45 :: f).toArray⟩ from ba_append [45] f]; refine (parseInt_ok _ v _ (by simp only [List.length_cons]; omega) HV.out).mono ?_; rintro e w3 ⟨rfl, hb3⟩))
   go_ret2
   have b2 := (hb1.alloc hb1.size (.cells #[.bool true, .string ⟨x.toArray⟩, .string ⟨y.toArray⟩, .string ⟨pw.toArray⟩] 158)).trans (hb2.mono (by have := hb1.size; simp; omega))
   exact nres_ok v HR.out rfl (b2.trans (hb3.mono b2.size))
 ·have HB := Lib.hid (show ∀ v, Lib.parseIntB 64 (if b = true then 45 :: f else f) ≠ .ok v from fun v hv => hok ⟨v, hv⟩)
  have HR := Lib.hid (show wholeN l = .error 1 by
   rw [hr2]
   split
   ·rename_i n hn; exact absurd ⟨n, hn⟩ hok
   ·rfl)
  clear hr2 hok
  cases b
  ·simp only [Bool.false_eq_true, if_false] at HB
   go_enter Tryz.func52, Tryz.ntmps52
   go_wp2_with (first | (go_at_call 95; refine (asks_ok l ⟨false, x, y, pw⟩ _ H64.out HP.out).mono ?_; rintro e w1 ⟨rfl, hb1⟩) | (go_at_call 96; refine (whole_any ⟨false, x, y, pw⟩ _ (by exact HG.out.below (hb1.alloc hb1.size _)) hp1 hp2 hp3).mono ?_; rw [HW.out]; rintro e w2 ⟨hb2, rfl⟩; obtain ⟨hc2, hf2⟩ := bcell hb2) | (go_at_call 97; refine (parseInt_bad _ _ (by exact HG.out.below ((hb1.alloc hb1.size _).trans (hb2.mono (by have := hb1.size; simp; omega)))) (by omega) HB.out).mono ?_; rintro e w3 ⟨n, N, rfl, hb3⟩))
   go_ret2
   have b2 := (hb1.alloc hb1.size (.cells #[.bool false, .string ⟨x.toArray⟩, .string ⟨y.toArray⟩, .string ⟨pw.toArray⟩] 158)).trans (hb2.mono (by have := hb1.size; simp; omega))
   exact nres_error 1 HR.out rfl (b2.trans (hb3.mono b2.size))
  ·simp only [if_true] at HB
   go_enter Tryz.func52, Tryz.ntmps52
   go_wp2_with (first | (go_at_call 95; refine (asks_ok l ⟨true, x, y, pw⟩ _ H64.out HP.out).mono ?_; rintro e w1 ⟨rfl, hb1⟩) | (go_at_call 96; refine (whole_any ⟨true, x, y, pw⟩ _ (by exact HG.out.below (hb1.alloc hb1.size _)) hp1 hp2 hp3).mono ?_; rw [HW.out]; rintro e w2 ⟨hb2, rfl⟩; obtain ⟨hc2, hf2⟩ := bcell hb2) | (go_at_call 97; rw [show (⟨#[45]⟩ : ByteArray) ++ ⟨f.toArray⟩ = ⟨(45 :: f).toArray⟩ from ba_append [45] f]; refine (parseInt_bad _ _ (by exact HG.out.below ((hb1.alloc hb1.size _).trans (hb2.mono (by have := hb1.size; simp; omega)))) (by simp only [List.length_cons]; omega) HB.out).mono ?_; rintro e w3 ⟨n, N, rfl, hb3⟩))
   go_ret2
   have b2 := (hb1.alloc hb1.size (.cells #[.bool true, .string ⟨x.toArray⟩, .string ⟨y.toArray⟩, .string ⟨pw.toArray⟩] 158)).trans (hb2.mono (by have := hb1.size; simp; omega))
   exact nres_error 1 HR.out rfl (b2.trans (hb3.mono b2.size))
set_option maxHeartbeats 800000 in
theorem numWhole_any (l : List UInt8) (w : World) (hg : Glob w) (hl : l.length ≤ 1073741824) : Calls Tryz.prog 52 #[.string ⟨l.toArray⟩] w (NRes w (wholeN l)) := by
 by_cases h64 : 64 < l.length
 ·have HR := Lib.hid (show wholeN l = .error 3 by rw [wholeN, if_pos h64])
  have H64 := Lib.hid h64
  clear h64
  go_enter Tryz.func52, Tryz.ntmps52
  go_wp2_with (go_at_call 95; refine (asks_long l _ H64.out hl).mono ?_; rintro e w' ⟨rfl, hb⟩)
  go_ret2
  exact nres_error 3 HR.out rfl (hb.alloc hb.size _)
 cases hp : parseL l with
 | none =>
  have HR := Lib.hid (show wholeN l = .error 2 by rw [wholeN, if_neg h64, hp])
  have H64 := Lib.hid h64
  have HP := Lib.hid hp
  clear h64 hp
  go_enter Tryz.func52, Tryz.ntmps52
  go_wp2_with (go_at_call 95; refine (asks_form l _ H64.out HP.out).mono ?_; rintro e w' ⟨rfl, hb⟩)
  go_ret2
  exact nres_error 2 HR.out rfl (hb.alloc hb.size _)
 | some p =>
  have hpl := parseL_length hp
  have hr : wholeN l = match wholeL p with
   | none => .error 11
   | some f => if 20 < f.length then .error 1 else match Lib.parseIntB 64 (if p.below then 45 :: f else f) with
    | .ok n => .ok n
    | _ => .error 1 := by rw [wholeN, if_neg h64, hp]
  have HP := Lib.hid hp
  have H64 := Lib.hid h64
  have HG := Lib.hid hg
  obtain ⟨hp1, hp2, hp3⟩ := hpl
  clear hp h64 hg
  cases hw : wholeL p with
  | none =>
   rw [hw] at hr
   have HR := Lib.hid hr
   have HW := Lib.hid hw
   clear hr hw
   go_enter Tryz.func52, Tryz.ntmps52
   go_wp2_with (first | (go_at_call 95; refine (asks_ok l p _ H64.out HP.out).mono ?_; rintro e w1 ⟨rfl, hb1⟩) | (go_at_call 96; refine (whole_any p _ (by exact HG.out.below (hb1.alloc hb1.size _)) hp1 hp2 hp3).mono ?_; rw [HW.out]; rintro e w2 ⟨hb2, rfl⟩))
   go_ret2
   exact nres_error 11 HR.out rfl ((hb1.alloc hb1.size _).trans (hb2.mono (by have := hb1.size; simp; omega)))
  | some f =>
   rw [hw] at hr
   have HW := Lib.hid hw
   clear hw
   by_cases h20 : 20 < f.length
   ·have HR := Lib.hid (show wholeN l = .error 1 by rw [hr]; simp only; rw [if_pos h20])
    have h20' : (20 : Int) < (f.length : Int) := by omega
    clear hr h20
    go_enter Tryz.func52, Tryz.ntmps52
    go_wp2_with (first | (go_at_call 95; refine (asks_ok l p _ H64.out HP.out).mono ?_; rintro e w1 ⟨rfl, hb1⟩) | (go_at_call 96; refine (whole_any p _ (by exact HG.out.below (hb1.alloc hb1.size _)) hp1 hp2 hp3).mono ?_; rw [HW.out]; rintro e w2 ⟨hb2, rfl⟩))
    go_ret2
    exact nres_error 1 HR.out rfl ((hb1.alloc hb1.size _).trans (hb2.mono (by have := hb1.size; simp; omega)))
   ·have h20' : (f.length : Int) ≤ 20 := by omega
    have hr2 : wholeN l = match Lib.parseIntB 64 (if p.below then 45 :: f else f) with
     | .ok n => .ok n
     | _ => .error 1 := by rw [hr]; simp only; rw [if_neg h20]
    have h20n : f.length ≤ 20 := by omega
    clear hr h20
    obtain ⟨bl, x, y, pw⟩ := p
    simp only at hp1 hp2 hp3 hr2
    cases bl
    ·exact numWhole_last l false x y pw f w hl H64 HP HG HW hp1 hp2 hp3 h20n h20' hr2
    ·exact numWhole_last l true x y pw f w hl H64 HP HG HW hp1 hp2 hp3 h20n h20' hr2
end Go.Proofs.YtoimjnmhinfbkaaGreatDoor

namespace Go.Proofs.YtoimjnmhinfbkaaGreatDoor
open Go.RowKit
set_option maxRecDepth 100000
theorem lfield_kind (k : Int) (t : Bool) (x : ByteArray) (A : Option Addr) (n ca : Nat) (B : Option Addr) (m cb : Nat) (p name : ByteArray) (w : World) (h : (k == 5) = false) :
  Calls Tryz.prog 47 #[.agg #[.int .i64 k, .bool t, .string x, .slice A n ca, .slice B m cb, .string p], .string name] w (Threw w 11 p) := by
 go_enter Tryz.func47, Tryz.ntmps47
 go_wp2_with (go_at_call 92; refine (named_no _ _ _ _ _ _ _ _ _ _ _ _ h).mono ?_; rintro e w' ⟨g, rfl, h⟩)
 exact ⟨rfl, Threw.of ⟨g, rfl, h⟩ (((Below.refl _ _).alloc (Nat.le_refl _) _).alloc (by simp) _)⟩
theorem lfield_none (v : V) (cs : List Value) (p name : ByteArray) (w : World) (S : Nat → Prop) (hv : v.Rep w S cs) (hb : v.bulk ≤ 4194304) (hk : v.kind = 5) (hp : p.size ≤ 1073741824) (hn : name.size ≤ 1073741824)
  (hg : v.get name = none) :
  Calls Tryz.prog 47 #[.agg (cs ++ [Value.string p]).toArray, .string name] w (Threw w 4 (fieldPlace p name)) := by
 have hv2 := hv
 obtain ⟨A, ca, B, cb, rfl, -⟩ := hv.open
 have hnm := named_yes v [.int .i64 v.kind, .bool v.tr, .string v.text, .slice A v.list.length ca, .slice B v.names.length cb] p name
 rw [hg] at hnm
 simp only [Option.getD_none, Option.isSome_none, List.cons_append, List.nil_append] at hnm ⊢
 have HN := Lib.hid hnm
 have HV := Lib.hid hv2
 have HK := Lib.hid hk
 clear hnm hv hv2 hg hk
 go_enter Tryz.func47, Tryz.ntmps47
 go_wp2_with (first | (go_at_call 92; refine (HN.out _ S (by exact HV.out.agree fun b hb hlt => ⟨below_agree (((Below.refl w.heap.size w).alloc (Nat.le_refl _) _).alloc (by simp) _) b hlt, hb⟩) hb HK.out hp hn).mono ?_; rintro e w1 ⟨cs1, rfl, hrep1, hb1⟩; obtain ⟨A1, ca1, B1, cb1, rfl, -⟩ := hrep1.open; clear hrep1) | (go_at_call 54; refine (lmust_no _ _ _ _ _ _ _ _ _ _ _ _).mono ?_; rintro e w' ⟨g, rfl, h⟩))
 exact ⟨rfl, Threw.of ⟨g, rfl, h⟩ (((((Below.refl _ _).alloc (Nat.le_refl _) _).alloc (by simp) _).trans (hb1.mono (by simp; omega))).alloc (by have := hb1.size; simp at this; omega) _)⟩
theorem lfield_some (v u : V) (cs : List Value) (p name : ByteArray) (w : World) (S : Nat → Prop) (hv : v.Rep w S cs) (hb : v.bulk ≤ 4194304) (hk : v.kind = 5) (hp : p.size ≤ 1073741824) (hn : name.size ≤ 1073741824)
  (hg : v.get name = some u) :
  Calls Tryz.prog 47 #[.agg (cs ++ [Value.string p]).toArray, .string name] w fun e w' => ∃ cs', e = .returned (.agg (cs' ++ [Value.string (fieldPlace p name)]).toArray) ∧
   u.Rep w' (fun b => w.heap.size ≤ b ∧ b < w'.heap.size) cs' ∧ Below w.heap.size w w' := by
 have hv2 := hv
 obtain ⟨A, ca, B, cb, rfl, -⟩ := hv.open
 have hnm := named_yes v [.int .i64 v.kind, .bool v.tr, .string v.text, .slice A v.list.length ca, .slice B v.names.length cb] p name
 rw [hg] at hnm
 simp only [Option.getD_some, Option.isSome_some, List.cons_append, List.nil_append] at hnm ⊢
 have HN := Lib.hid hnm
 have HV := Lib.hid hv2
 have HK := Lib.hid hk
 clear hnm hv hv2 hg hk
 go_enter Tryz.func47, Tryz.ntmps47
 go_wp2_with (first | (go_at_call 92; refine (HN.out _ S (by exact HV.out.agree fun b hb hlt => ⟨below_agree (((Below.refl w.heap.size w).alloc (Nat.le_refl _) _).alloc (by simp) _) b hlt, hb⟩) hb HK.out hp hn).mono ?_; rintro e w1 ⟨cs1, rfl, hrep1, hb1⟩; obtain ⟨A1, ca1, B1, cb1, rfl, -⟩ := hrep1.open; have HR1 := Lib.hid hrep1; clear hrep1; have hz1 : w.heap.size + 1 < w1.heap.size := (by have := hb1.size; simp at this; omega); have hz2 : w.heap.size < w1.heap.size := (by omega); obtain ⟨hc1, hf1⟩ := bcell hb1) | (go_at_call 54; refine (lmust_yes _ _ _ _ _ _ _ _ _ _ _ _).mono ?_; rintro e w2 ⟨rfl, hb2⟩; obtain ⟨hc2, hf2⟩ := bcell hb2; have hy1 : w.heap.size + 1 < w2.heap.size := (by have := hb2.size; simp at this; omega); have hy2 : w1.heap.size < w2.heap.size := (by have := hb2.size; simp at this; omega)))
 refine bodyPost_ret (v := .agg #[.int .i64 u.kind, .bool u.tr, .string u.text, .slice A1 u.list.length ca1, .slice B1 u.names.length cb1, .string (fieldPlace p name)]) (by simp [results, Tryz.results47, go_sem, hc2, hc1, hz1, hy1, hz2, Nat.lt_succ_of_lt hz1]) rfl ?_
 refine ⟨[.int .i64 u.kind, .bool u.tr, .string u.text, .slice A1 u.list.length ca1, .slice B1 u.names.length cb1], rfl, ?_, ?_⟩
 ·refine HR1.out.fresh (lo := w.heap.size) (g := w.heap.size + 1) ?_ (by simp; omega) (by simp)
  (repeat (first | with_reducible refine Also.drew ?_ | with_reducible refine Also.alloc ?_ _ | with_reducible refine Also.setCell ?_ (by simp) _))
  exact ((Also.refl _ _).alloc _).below hb2 (Nat.le_refl _)
 ·(repeat (first | with_reducible refine Below.setCell ?_ (by simp) _))
  exact ((((Below.refl _ _).alloc (Nat.le_refl _) _).alloc (by simp) _).trans (hb1.mono (by simp; omega))).trans ((((Below.refl _ _).alloc (by omega) _)).trans (hb2.mono (by simp; omega)))
end Go.Proofs.YtoimjnmhinfbkaaGreatDoor

namespace Go.Proofs.YtoimjnmhinfbkaaGreatDoor
open Go.RowKit
set_option maxRecDepth 100000
theorem of_any (v : V) (cs : List Value) (w : World) (S : Nat → Prop) (hv : v.Rep w S cs) (hb : v.bulk ≤ 4194304) :
  Calls Tryz.prog 12 #[.agg cs.toArray] w fun e w' => ∃ cs', e = .returned (.agg (cs' ++ [Value.string ⟨#[]⟩]).toArray) ∧
   v.Rep w' (fun b => w.heap.size ≤ b ∧ b < w'.heap.size) cs' ∧ Below w.heap.size w w' := by
 have hv2 := hv
 obtain ⟨A, ca, B, cb, rfl, -⟩ := hv.open
 have HV := Lib.hid hv2
 clear hv hv2
 go_enter Tryz.func12, Tryz.ntmps12
 go_wp2_with (go_at_call 50; refine (copy_any v [.int .i64 v.kind, .bool v.tr, .string v.text, .slice A v.list.length ca, .slice B v.names.length cb] _ S hb (by exact HV.out.agree fun b hb hlt => ⟨below_agree (((Below.refl w.heap.size w).alloc (Nat.le_refl _) _).alloc (by simp) _) b hlt, hb⟩)).mono ?_; rintro e w1 ⟨cs1, rfl, hrep1, hb1⟩; obtain ⟨A1, ca1, B1, cb1, rfl, -⟩ := hrep1.open; have HR1 := Lib.hid hrep1; clear hrep1; have hz1 : w.heap.size + 1 < w1.heap.size := (by have := hb1.size; simp at this; omega); have hz2 : w.heap.size < w1.heap.size := (by omega); obtain ⟨hc1, hf1⟩ := bcell hb1)
 refine bodyPost_ret (v := .agg #[.int .i64 v.kind, .bool v.tr, .string v.text, .slice A1 v.list.length ca1, .slice B1 v.names.length cb1, .string ⟨#[]⟩]) (by simp [results, Tryz.results12, go_sem, hc1, hz1, hz2]) rfl ?_
 refine ⟨[.int .i64 v.kind, .bool v.tr, .string v.text, .slice A1 v.list.length ca1, .slice B1 v.names.length cb1], rfl, ?_, ?_⟩
 ·refine HR1.out.fresh (lo := w.heap.size) (g := w.heap.size + 1) ?_ (by simp; omega) (by simp)
  (repeat (first | with_reducible refine Also.drew ?_ | with_reducible refine Also.alloc ?_ _ | with_reducible refine Also.setCell ?_ (by simp) _))
  exact Also.refl _ _
 ·(repeat (first | with_reducible refine Below.setCell ?_ (by simp) _))
  exact (((Below.refl _ _).alloc (Nat.le_refl _) _).alloc (by simp) _).trans (hb1.mono (by simp; omega))
end Go.Proofs.YtoimjnmhinfbkaaGreatDoor
