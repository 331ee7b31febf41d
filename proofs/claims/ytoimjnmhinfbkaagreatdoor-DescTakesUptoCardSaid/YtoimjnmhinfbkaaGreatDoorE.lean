import Derived.Test.YtoimjnmhinfbkaaGreatDoorA
import Derived.Test.YtoimjnmhinfbkaaGreatDoorD
import Derived.Test.YtoimjnmhinfbkaaGreatDoorShelf
namespace Go.Proofs.YtoimjnmhinfbkaaGreatDoor
open Go.RowKit
set_option maxRecDepth 100000

/-- what was thrown: a fault with a code, at a place. -/
def Threw (w : World) (c : Int) (s : ByteArray) (e : Ending) (w' : World) : Prop :=
  ∃ g, e = .panicked [{ v := .iface 106 (.pointer (some ⟨g, 0, none⟩)), recovered := false }] ∧ w.heap.size ≤ g ∧ g < w'.heap.size ∧
    w'.heap[g]? = some (.cells #[.int .i64 c, .string s] 114 (0, 0)) ∧ Below w.heap.size w w'

theorem Threw.of {w w1 : World} {c : Int} {s : ByteArray} {e : Ending} {w' : World} (h : Threw w1 c s e w') (hb : Below w.heap.size w w1) : Threw w c s e w' := by
  obtain ⟨g, h1, h2, h3, h4, h5⟩ := h
  have := hb.size
  exact ⟨g, h1, by omega, h3, h4, hb.trans (h5.mono (by omega))⟩

theorem throw_threw (c : Int) (s : ByteArray) (w : World) : Calls Tryz.prog 98 #[.int .i64 c, .string s] w (Threw w c s) :=
  (throw_any c s w).mono fun e w' ⟨h1, h2⟩ => by
    subst h2
    exact ⟨_, h1, Nat.le_refl _, by simp, heap_alloc_new w _, (Below.refl _ _).alloc (Nat.le_refl _) _⟩

theorem must_threw (c : Int) (s : ByteArray) (w : World) : Calls Tryz.prog 99 #[.bool false, .int .i64 c, .string s] w (Threw w c s) :=
  (must_no c s w).mono fun e w' ⟨h1, h2⟩ => by
    subst h2
    exact ⟨_, h1, Nat.le_refl _, by simp, heap_alloc_new w _, (Below.refl _ _).alloc (Nat.le_refl _) _⟩

section
variable (k : Int) (t : Bool) (x : ByteArray) (A : Option Addr) (n ca : Nat) (B : Option Addr) (m cb : Nat) (p : ByteArray) (w : World)

theorem wrong_any (c : Int) : Calls Tryz.prog 53 #[.agg #[.int .i64 k, .bool t, .string x, .slice A n ca, .slice B m cb, .string p], .int .i64 c] w (Threw w c p) := by
  go_enter Tryz.func53, Tryz.ntmps53
  go_wp2_with (go_at_call 98; refine (throw_threw _ _ _).mono ?_; rintro e w' ⟨g, rfl, h⟩)
  exact ⟨rfl, Threw.of ⟨g, rfl, h⟩ ((Below.refl _ _).alloc (Nat.le_refl _) _)⟩

theorem lmust_no (c : Int) : Calls Tryz.prog 54 #[.agg #[.int .i64 k, .bool t, .string x, .slice A n ca, .slice B m cb, .string p], .bool false, .int .i64 c] w (Threw w c p) := by
  go_enter Tryz.func54, Tryz.ntmps54
  go_wp2_with (go_at_call 99; refine (must_threw _ _ _).mono ?_; rintro e w' ⟨g, rfl, h⟩)
  exact ⟨rfl, Threw.of ⟨g, rfl, h⟩ ((Below.refl _ _).alloc (Nat.le_refl _) _)⟩

theorem lmust_yes (c : Int) : Calls Tryz.prog 54 #[.agg #[.int .i64 k, .bool t, .string x, .slice A n ca, .slice B m cb, .string p], .bool true, .int .i64 c] w
    fun e w' => e = .returned (.tuple #[]) ∧ Below w.heap.size w w' := by
  go_enter Tryz.func54, Tryz.ntmps54
  go_wp2_with (go_at_call 99; refine (must_yes _ _ _).mono ?_; rintro e w' ⟨rfl, rfl⟩)
  go_end0
  exact ⟨rfl, (Below.refl _ _).alloc (Nat.le_refl _) _⟩

theorem kind_no (q : Int) (h : (k == q) = false) : Calls Tryz.prog 51 #[.agg #[.int .i64 k, .bool t, .string x, .slice A n ca, .slice B m cb, .string p], .int .i64 q] w (Threw w 11 p) := by
  go_enter Tryz.func51, Tryz.ntmps51
  go_wp2_with (go_at_call 54; refine (lmust_no _ _ _ _ _ _ _ _ _ _ _ _).mono ?_; rintro e w' ⟨g, rfl, h⟩)
  exact ⟨rfl, Threw.of ⟨g, rfl, h⟩ ((Below.refl _ _).alloc (Nat.le_refl _) _)⟩

theorem kind_yes (q : Int) (h : (k == q) = true) : Calls Tryz.prog 51 #[.agg #[.int .i64 k, .bool t, .string x, .slice A n ca, .slice B m cb, .string p], .int .i64 q] w
    fun e w' => e = .returned (.tuple #[]) ∧ Below w.heap.size w w' := by
  go_enter Tryz.func51, Tryz.ntmps51
  go_wp2_with (go_at_call 54; refine (lmust_yes _ _ _ _ _ _ _ _ _ _ _ _).mono ?_; rintro e w' ⟨rfl, hb⟩)
  go_end0
  exact ⟨rfl, Below.trans ((Below.refl _ _).alloc (Nat.le_refl _) _) (hb.mono (by simp))⟩
end

/-- the place of a field. -/
def fieldPlace (p name : ByteArray) : ByteArray := if p.toList = [] then name else p ++ ⟨#[46]⟩ ++ name

theorem field_any (k : Int) (t : Bool) (x : ByteArray) (A : Option Addr) (n ca : Nat) (B : Option Addr) (m cb : Nat) (p name : ByteArray) (w : World) (hp : p.size ≤ 1073741824) (hn : name.size ≤ 1073741824) :
    Calls Tryz.prog 101 #[.agg #[.int .i64 k, .bool t, .string x, .slice A n ca, .slice B m cb, .string p], .string name] w
      fun e w' => e = .returned (.string (fieldPlace p name)) ∧ w' = w.alloc (.cells #[.int .i64 k, .bool t, .string x, .slice A n ca, .slice B m cb, .string p] 32) := by
  go_enter Tryz.func101, Tryz.ntmps101
  cases he : p.toList.isEmpty
  · go_wp2
    go_ret
    refine ⟨?_, rfl⟩
    show Ending.returned (.string (p ++ ⟨#[46]⟩ ++ name)) = _
    rw [fieldPlace, if_neg (by simpa using he)]
  · go_wp2
    go_ret
    refine ⟨?_, rfl⟩
    show Ending.returned (.string name) = _
    rw [fieldPlace, if_pos (by simpa using he)]

/-- where a name's value stands; -1: nowhere. -/
def V.place (v : V) (name : ByteArray) : Int :=
  if v.kind ≠ 5 ∨ (v.list.length : Int) ≤ Lib.idxOfS v.names name then -1 else Lib.idxOfS v.names name

theorem index_strs (B : Option Addr) (ns : List ByteArray) (c : Nat) (name : ByteArray) (w : World) (S : Nat → Prop) (h : Strs w S B ns) (hl : ns.length ≤ 8388608) :
    Calls Tryz.prog 131 #[.slice B ns.length c, .string name] w fun e w' => e = .returned (.int .i64 (Lib.idxOfS ns name)) ∧ w' = w := by
  rcases h with h | ⟨b, o, hA, hS, hr⟩
  · subst h
    exact Tryz.slices_Index_string_empty B c name w
  · subst hA
    have := Tryz.slices_Index_string b o ns.length c ns name w (Nat.le_refl _) (by omega) (fun j hj => by
      have := hr j (by simpa using hj)
      simpa [List.getD_eq_getElem?_getD, hj] using this)
    rwa [List.take_length] at this

theorem place_any (k : Int) (t : Bool) (x : ByteArray) (A : Option Addr) (l : List V) (ca : Nat) (B : Option Addr) (ns : List ByteArray) (cb : Nat) (name : ByteArray) (w : World) (S : Nat → Prop)
    (hS : Strs w S B ns) (hn : ns.length ≤ 8388608) (hl : l.length ≤ 8388608) :
    Calls Tryz.prog 145 #[.agg #[.int .i64 k, .bool t, .string x, .slice A l.length ca, .slice B ns.length cb], .string name] w
      fun e w' => e = .returned (.int .i64 ((V.mk k t x l ns).place name)) ∧ Below w.heap.size w w' := by
  have HS := Lib.hid (hS.agree (w' := w.alloc (.cells #[.int .i64 k, .bool t, .string x, .slice A l.length ca, .slice B ns.length cb] 27)) (S' := S) fun b hb hlt => ⟨Below.heap_alloc w _ b hlt, hb⟩)
  clear hS
  generalize hi : Lib.idxOfS ns name = i
  have HI := Lib.hid hi
  clear hi
  have hp : (V.mk k t x l ns).place name = if k ≠ 5 ∨ (l.length : Int) ≤ i then -1 else i := by simp only [V.place, V.kind, V.list, V.names, HI.out]
  have HP := Lib.hid hp
  clear hp
  by_cases hk : k = 5
  · subst hk
    by_cases h : (l.length : Int) ≤ i
    · have hd : decide ((l.length : Int) ≤ i) = true := by simpa using h
      go_enter Tryz.func145, Tryz.ntmps145
      go_wp2_with (go_at_call 131; refine (index_strs B ns cb name _ S HS.out hn).mono ?_; rintro e w' ⟨rfl, rfl⟩; rw [HI.out])
      go_ret
      refine ⟨?_, (Below.refl _ _).alloc (Nat.le_refl _) _⟩
      rw [HP.out, if_pos (.inr h)]; rfl
    · have hd : decide ((l.length : Int) ≤ i) = false := by simpa using h
      go_enter Tryz.func145, Tryz.ntmps145
      go_wp2_with (go_at_call 131; refine (index_strs B ns cb name _ S HS.out hn).mono ?_; rintro e w' ⟨rfl, rfl⟩; rw [HI.out])
      go_ret
      refine ⟨?_, (Below.refl _ _).alloc (Nat.le_refl _) _⟩
      rw [HP.out, if_neg (by simpa using h)]; rfl
  · have hk2 : (k != 5) = true := by simpa using hk
    have hk3 : (k == 5) = false := by simpa using hk
    have HK := Lib.hid hk
    clear hk
    go_enter Tryz.func145, Tryz.ntmps145
    go_wp2_with (go_at_call 131; refine (index_strs B ns cb name _ S HS.out hn).mono ?_; rintro e w' ⟨rfl, rfl⟩; rw [HI.out])
    go_ret
    refine ⟨?_, (Below.refl _ _).alloc (Nat.le_refl _) _⟩
    rw [HP.out, if_pos (.inl HK.out)]; rfl

end Go.Proofs.YtoimjnmhinfbkaaGreatDoor
