import Derived.Test.YtoimjnmhinfbkaaGreatDoorL
namespace Go.Proofs.YtoimjnmhinfbkaaGreatDoor
open Go.RowKit
set_option maxRecDepth 100000

theorem place_look (k : Int) (t : Bool) (x : ByteArray) (A : Option Addr) (n ca : Nat) (B : Option Addr) (m cb : Nat) (p : ByteArray) (w : World) :
    Calls Tryz.prog 20 #[.agg #[.int .i64 k, .bool t, .string x, .slice A n ca, .slice B m cb, .string p]] w fun e w' => e = .returned (.string p) ∧ Below w.heap.size w w' := by
  go_enter Tryz.func20, Tryz.ntmps20
  go_wp2
  go_ret
  exact ⟨rfl, (Below.refl _ _).alloc (Nat.le_refl _) _⟩

theorem value_look (v : V) (cs : List Value) (p : ByteArray) (w : World) (S : Nat → Prop) (hv : v.Rep w S cs) (hb : v.bulk ≤ 4194304) :
    Calls Tryz.prog 22 #[.agg (cs ++ [Value.string p]).toArray] w fun e w' => ∃ cs', e = .returned (.agg cs'.toArray) ∧
      v.Rep w' (fun b => w.heap.size ≤ b ∧ b < w'.heap.size) cs' ∧ Below w.heap.size w w' := by
  have hv2 := hv
  obtain ⟨A, ca, B, cb, rfl, -⟩ := hv.open
  have HV := Lib.hid hv2
  clear hv hv2
  simp only [List.cons_append, List.nil_append]
  go_enter Tryz.func22, Tryz.ntmps22
  go_wp2_with (go_at_call 50; refine (copy_any v [.int .i64 v.kind, .bool v.tr, .string v.text, .slice A v.list.length ca, .slice B v.names.length cb] _ S hb (by exact HV.out.agree fun b hb hlt => ⟨below_agree (((Below.refl w.heap.size w).alloc (Nat.le_refl _) _).alloc (by simp) _) b hlt, hb⟩)).mono ?_; rintro e w1 ⟨cs1, rfl, hrep1, hb1⟩; obtain ⟨A1, ca1, B1, cb1, rfl, -⟩ := hrep1.open; have HR1 := Lib.hid hrep1; clear hrep1; have hz1 : w.heap.size + 1 < w1.heap.size := (by have := hb1.size; simp at this; omega); have hz2 : w.heap.size < w1.heap.size := (by omega); obtain ⟨hc1, hf1⟩ := bcell hb1)
  refine bodyPost_ret (v := .agg #[.int .i64 v.kind, .bool v.tr, .string v.text, .slice A1 v.list.length ca1, .slice B1 v.names.length cb1]) (by simp [results, Tryz.results22, go_sem, hc1, hz1, hz2]) rfl ?_
  refine ⟨[.int .i64 v.kind, .bool v.tr, .string v.text, .slice A1 v.list.length ca1, .slice B1 v.names.length cb1], rfl, ?_, ?_⟩
  · refine HR1.out.fresh (lo := w.heap.size) (g := w.heap.size + 1) ?_ (by simp; omega) (by simp)
    (repeat (first | with_reducible refine Also.drew ?_ | with_reducible refine Also.alloc ?_ _ | with_reducible refine Also.setCell ?_ (by simp) _))
    exact Also.refl _ _
  · (repeat (first | with_reducible refine Below.setCell ?_ (by simp) _))
    exact (((Below.refl _ _).alloc (Nat.le_refl _) _).alloc (by simp) _).trans (hb1.mono (by simp; omega))

/-! ### a text, a bool -/
theorem text_kind (k : Int) (t : Bool) (x : ByteArray) (A : Option Addr) (n ca : Nat) (B : Option Addr) (m cb : Nat) (p : ByteArray) (most : Int) (w : World) (h : (k == 3) = false) :
    Calls Tryz.prog 59 #[.agg #[.int .i64 k, .bool t, .string x, .slice A n ca, .slice B m cb, .string p], .int .i64 most] w (Threw w 11 p) := by
  go_enter Tryz.func59, Tryz.ntmps59
  go_wp2_with (go_at_call 51; refine (kind_no _ _ _ _ _ _ _ _ _ _ _ _ h).mono ?_; rintro e w' ⟨g, rfl, h⟩)
  exact ⟨rfl, Threw.of ⟨g, rfl, h⟩ ((Below.refl _ _).alloc (Nat.le_refl _) _)⟩

theorem text_long (t : Bool) (x : ByteArray) (A : Option Addr) (n ca : Nat) (B : Option Addr) (m cb : Nat) (p : ByteArray) (most : Int) (w : World) (hl : x.size ≤ 1073741824) (h : most < x.size) :
    Calls Tryz.prog 59 #[.agg #[.int .i64 3, .bool t, .string x, .slice A n ca, .slice B m cb, .string p], .int .i64 most] w (Threw w 3 p) := by
  have hd : decide ((x.size : Int) ≤ most) = false := by simpa using h
  clear h
  go_enter Tryz.func59, Tryz.ntmps59
  go_wp2_with (first | (go_at_call 51; refine (kind_yes _ _ _ _ _ _ _ _ _ _ _ _ (by rfl)).mono ?_; rintro e w1 ⟨rfl, hb1⟩; obtain ⟨hc1, hf1⟩ := bcell hb1; have hz1 : w.heap.size < w1.heap.size := (by have := hb1.size; simp at this; omega)) | (go_at_call 54; refine (lmust_no _ _ _ _ _ _ _ _ _ _ _ _).mono ?_; rintro e w' ⟨g, rfl, h⟩))
  exact ⟨rfl, Threw.of ⟨g, rfl, h⟩ (((Below.refl _ _).alloc (Nat.le_refl _) _).trans (hb1.mono (by simp)))⟩

theorem text_some (t : Bool) (x : ByteArray) (A : Option Addr) (n ca : Nat) (B : Option Addr) (m cb : Nat) (p : ByteArray) (most : Int) (w : World) (hl : x.size ≤ 1073741824) (h : (x.size : Int) ≤ most) :
    Calls Tryz.prog 59 #[.agg #[.int .i64 3, .bool t, .string x, .slice A n ca, .slice B m cb, .string p], .int .i64 most] w fun e w' => e = .returned (.string x) ∧ Below w.heap.size w w' := by
  have hd : decide ((x.size : Int) ≤ most) = true := by simpa using h
  clear h
  go_enter Tryz.func59, Tryz.ntmps59
  go_wp2_with (first | (go_at_call 51; refine (kind_yes _ _ _ _ _ _ _ _ _ _ _ _ (by rfl)).mono ?_; rintro e w1 ⟨rfl, hb1⟩; obtain ⟨hc1, hf1⟩ := bcell hb1; have hz1 : w.heap.size < w1.heap.size := (by have := hb1.size; simp at this; omega)) | (go_at_call 54; refine (lmust_yes _ _ _ _ _ _ _ _ _ _ _ _).mono ?_; rintro e w2 ⟨rfl, hb2⟩; obtain ⟨hc2, hf2⟩ := bcell hb2))
  go_ret
  exact ⟨rfl, (((Below.refl _ _).alloc (Nat.le_refl _) _).trans (hb1.mono (by simp))).trans (hb2.mono (by omega))⟩

theorem bool_kind (k : Int) (t : Bool) (x : ByteArray) (A : Option Addr) (n ca : Nat) (B : Option Addr) (m cb : Nat) (p : ByteArray) (w : World) (h : (k == 1) = false) :
    Calls Tryz.prog 61 #[.agg #[.int .i64 k, .bool t, .string x, .slice A n ca, .slice B m cb, .string p]] w (Threw w 11 p) := by
  go_enter Tryz.func61, Tryz.ntmps61
  go_wp2_with (go_at_call 51; refine (kind_no _ _ _ _ _ _ _ _ _ _ _ _ h).mono ?_; rintro e w' ⟨g, rfl, h⟩)
  exact ⟨rfl, Threw.of ⟨g, rfl, h⟩ ((Below.refl _ _).alloc (Nat.le_refl _) _)⟩

theorem bool_some (t : Bool) (x : ByteArray) (A : Option Addr) (n ca : Nat) (B : Option Addr) (m cb : Nat) (p : ByteArray) (w : World) :
    Calls Tryz.prog 61 #[.agg #[.int .i64 1, .bool t, .string x, .slice A n ca, .slice B m cb, .string p]] w fun e w' => e = .returned (.bool t) ∧ Below w.heap.size w w' := by
  go_enter Tryz.func61, Tryz.ntmps61
  go_wp2_with (go_at_call 51; refine (kind_yes _ _ _ _ _ _ _ _ _ _ _ _ (by rfl)).mono ?_; rintro e w1 ⟨rfl, hb1⟩; obtain ⟨hc1, hf1⟩ := bcell hb1; have hz1 : w.heap.size < w1.heap.size := (by have := hb1.size; simp at this; omega))
  go_ret
  exact ⟨rfl, ((Below.refl _ _).alloc (Nat.le_refl _) _).trans (hb1.mono (by simp))⟩

/-! ### a field that may be -/
def V.maybe (v : V) (name : ByteArray) : Option V := match v.get name with
  | some u => if (u.kind == 0) = true then none else some u
  | none => none

theorem maybe_kind (k : Int) (t : Bool) (x : ByteArray) (A : Option Addr) (n ca : Nat) (B : Option Addr) (m cb : Nat) (p name : ByteArray) (w : World) (h : (k == 5) = false) :
    Calls Tryz.prog 57 #[.agg #[.int .i64 k, .bool t, .string x, .slice A n ca, .slice B m cb, .string p], .string name] w (Threw w 11 p) := by
  go_enter Tryz.func57, Tryz.ntmps57
  go_wp2_with (go_at_call 92; refine (named_no _ _ _ _ _ _ _ _ _ _ _ _ h).mono ?_; rintro e w' ⟨g, rfl, h⟩)
  exact ⟨rfl, Threw.of ⟨g, rfl, h⟩ (((Below.refl _ _).alloc (Nat.le_refl _) _).alloc (by simp) _)⟩

set_option maxHeartbeats 800000 in
theorem maybe_none (v : V) (cs : List Value) (p name : ByteArray) (w : World) (S : Nat → Prop) (hv : v.Rep w S cs) (hb : v.bulk ≤ 4194304) (hk : v.kind = 5) (hp : p.size ≤ 1073741824) (hn : name.size ≤ 1073741824)
    (hg : v.maybe name = none) :
    Calls Tryz.prog 57 #[.agg (cs ++ [Value.string p]).toArray, .string name] w fun e w' =>
      e = .returned (.tuple #[.agg #[.int .i64 0, .bool false, .string ⟨#[]⟩, .slice none 0 0, .slice none 0 0, .string ⟨#[]⟩], .bool false]) ∧ Below w.heap.size w w' := by
  have hv2 := hv
  obtain ⟨A, ca, B, cb, rfl, -⟩ := hv.open
  have hnm := named_yes v [.int .i64 v.kind, .bool v.tr, .string v.text, .slice A v.list.length ca, .slice B v.names.length cb] p name
  have hq : (v.get name).isSome = false ∨ ((v.get name).isSome = true ∧ (((v.get name).getD V.zero).kind == 0) = true) := by
    unfold V.maybe at hg
    cases hh : v.get name with
    | none => exact .inl rfl
    | some u =>
      rw [hh] at hg
      refine .inr ⟨rfl, ?_⟩
      simp only at hg
      split at hg
      · assumption
      · cases hg
  generalize hu : (v.get name).getD V.zero = u at hnm hq
  generalize hqq : (v.get name).isSome = q at hnm hq
  have HN := Lib.hid hnm
  have HV := Lib.hid hv2
  have HK := Lib.hid hk
  clear hnm hv hv2 hk hg hu hqq
  simp only [List.cons_append, List.nil_append] at HN ⊢
  rcases hq with rfl | ⟨rfl, hk0⟩
  all_goals
    go_enter Tryz.func57, Tryz.ntmps57
    go_wp2_with (go_at_call 92; refine (HN.out _ S (by exact HV.out.agree fun b hb hlt => ⟨below_agree (((Below.refl w.heap.size w).alloc (Nat.le_refl _) _).alloc (by simp) _) b hlt, hb⟩) hb HK.out hp hn).mono ?_; rintro e w1 ⟨cs1, rfl, hrep1, hb1⟩; obtain ⟨A1, ca1, B1, cb1, rfl, -⟩ := hrep1.open; clear hrep1; have hz1 : w.heap.size + 1 < w1.heap.size := (by have := hb1.size; simp at this; omega); have hz2 : w.heap.size < w1.heap.size := (by omega); obtain ⟨hc1, hf1⟩ := bcell hb1)
    refine bodyPost_ret (v := .tuple #[.agg #[.int .i64 0, .bool false, .string ⟨#[]⟩, .slice none 0 0, .slice none 0 0, .string ⟨#[]⟩], .bool false]) (by simp [results, Tryz.results57, go_sem, hc1, hz1, hz2, Nat.lt_succ_of_lt hz1]) rfl ?_
    refine ⟨rfl, ?_⟩
    (repeat (first | with_reducible refine Below.alloc ?_ (by simp; omega) _ | with_reducible refine Below.setCell ?_ (by simp) _))
    exact (((Below.refl _ _).alloc (Nat.le_refl _) _).alloc (by simp) _).trans (hb1.mono (by simp; omega))

set_option maxHeartbeats 800000 in
theorem maybe_some (v u : V) (cs : List Value) (p name : ByteArray) (w : World) (S : Nat → Prop) (hv : v.Rep w S cs) (hb : v.bulk ≤ 4194304) (hk : v.kind = 5) (hp : p.size ≤ 1073741824) (hn : name.size ≤ 1073741824)
    (hg : v.maybe name = some u) :
    Calls Tryz.prog 57 #[.agg (cs ++ [Value.string p]).toArray, .string name] w fun e w' => ∃ cs',
      e = .returned (.tuple #[.agg (cs' ++ [Value.string (fieldPlace p name)]).toArray, .bool true]) ∧ u.Rep w' (fun b => w.heap.size ≤ b ∧ b < w'.heap.size) cs' ∧ Below w.heap.size w w' := by
  have hv2 := hv
  obtain ⟨A, ca, B, cb, rfl, -⟩ := hv.open
  have hnm := named_yes v [.int .i64 v.kind, .bool v.tr, .string v.text, .slice A v.list.length ca, .slice B v.names.length cb] p name
  have hgu : v.get name = some u ∧ (u.kind == 0) = false := by
    unfold V.maybe at hg
    cases hh : v.get name with
    | none => rw [hh] at hg; cases hg
    | some u' =>
      rw [hh] at hg
      simp only at hg
      split at hg
      · cases hg
      · cases hg
        rename_i hne; exact ⟨rfl, by simpa using hne⟩
  obtain ⟨hgu, hk0⟩ := hgu
  rw [hgu] at hnm
  simp only [Option.getD_some, Option.isSome_some, List.cons_append, List.nil_append] at hnm ⊢
  have HN := Lib.hid hnm
  have HV := Lib.hid hv2
  have HK := Lib.hid hk
  clear hnm hv hv2 hk hg hgu
  go_enter Tryz.func57, Tryz.ntmps57
  go_wp2_with (go_at_call 92; refine (HN.out _ S (by exact HV.out.agree fun b hb hlt => ⟨below_agree (((Below.refl w.heap.size w).alloc (Nat.le_refl _) _).alloc (by simp) _) b hlt, hb⟩) hb HK.out hp hn).mono ?_; rintro e w1 ⟨cs1, rfl, hrep1, hb1⟩; obtain ⟨A1, ca1, B1, cb1, rfl, -⟩ := hrep1.open; have HR1 := Lib.hid hrep1; clear hrep1; have hz1 : w.heap.size + 1 < w1.heap.size := (by have := hb1.size; simp at this; omega); have hz2 : w.heap.size < w1.heap.size := (by omega); obtain ⟨hc1, hf1⟩ := bcell hb1)
  refine bodyPost_ret (v := .tuple #[.agg #[.int .i64 u.kind, .bool u.tr, .string u.text, .slice A1 u.list.length ca1, .slice B1 u.names.length cb1, .string (fieldPlace p name)], .bool true]) (by simp [results, Tryz.results57, go_sem, hc1, hz1, hz2, Nat.lt_succ_of_lt hz1]) rfl ?_
  refine ⟨[.int .i64 u.kind, .bool u.tr, .string u.text, .slice A1 u.list.length ca1, .slice B1 u.names.length cb1], rfl, ?_, ?_⟩
  · refine HR1.out.fresh (lo := w.heap.size) (g := w.heap.size + 1) ?_ (by simp; omega) (by simp)
    (repeat (first | with_reducible refine Also.drew ?_ | with_reducible refine Also.alloc ?_ _ | with_reducible refine Also.setCell ?_ (by simp) _))
    exact Also.refl _ _
  · (repeat (first | with_reducible refine Below.alloc ?_ (by simp; omega) _ | with_reducible refine Below.setCell ?_ (by simp) _))
    exact (((Below.refl _ _).alloc (Nat.le_refl _) _).alloc (by simp) _).trans (hb1.mono (by simp; omega))

end Go.Proofs.YtoimjnmhinfbkaaGreatDoor

namespace Go.Proofs.YtoimjnmhinfbkaaGreatDoor
open Go.RowKit
set_option maxRecDepth 100000

/-- some number, some bool; nothing of what was there has turned. -/
def RoomRes (w : World) (e : Ending) (w' : World) : Prop := ∃ (q : Int) (b : Bool), e = .returned (.tuple #[.int .i64 q, .bool b]) ∧ Below w.heap.size w w'
theorem RoomRes.of {w w' : World} {e : Ending} (q : Int) (b : Bool) (he : e = .returned (.tuple #[.int .i64 q, .bool b])) (hb : Below w.heap.size w w') : RoomRes w e w' := ⟨q, b, he, hb⟩

set_option maxHeartbeats 1600000 in
theorem room_step (k : Int) (t : Bool) (x : ByteArray) (l : List V) (ns : List ByteArray)
    (ih : ∀ v ∈ l, ∀ (cs : List Value) (w : World) (S : Nat → Prop) (d m : Int), v.bulk ≤ 4194304 → v.Rep w S cs →
      Calls Tryz.prog 55 #[.agg cs.toArray, .int .i64 d, .int .i64 m] w (RoomRes w))
    (A : Option Addr) (ca : Nat) (B : Option Addr) (cb : Nat) (w : World) (S : Nat → Prop) (d m : Int)
    (hS : Strs w S B ns) (hl : l = [] ∨ ∃ b o, A = some ⟨b, o, none⟩ ∧ S b ∧ V.Reps w S b o l) (hx : x.size ≤ 4194304) (hn : ns.length ≤ 4194304) (hll : l.length ≤ 4194304) (hlb : ∀ v ∈ l, v.bulk ≤ 4194304) :
    Calls Tryz.prog 55 #[.agg #[.int .i64 k, .bool t, .string x, .slice A l.length ca, .slice B ns.length cb], .int .i64 d, .int .i64 m] w (RoomRes w) := by
  have IH := Lib.hid ih
  have HL := Lib.hid hl
  have HS := Lib.hid (hS.agree (w' := w.alloc (.cells #[.int .i64 k, .bool t, .string x, .slice A l.length ca, .slice B ns.length cb] 27)) (S' := S) fun b hb hlt => ⟨Below.heap_alloc w _ b hlt, hb⟩)
  have HLB := Lib.hid hlb
  clear ih hl hS hlb
  go_enter Tryz.func55, Tryz.ntmps55
  go_wp2_with fail
  go_loop [2, 28] (fun u i => ∃ (q : Int) (j : Nat), j ≤ ns.length ∧ u = .int .i64 q ∧ i = .int .i64 j) (fun _ i => ns.length - (intOf i).toNat)
  case atStart => exact ⟨_, 0, Nat.zero_le _, rfl, rfl⟩
  case round =>
    obtain ⟨q, j, hj, rfl, rfl⟩ := hrel
    have hj0 : (0 : Int) ≤ (j : Int) := Int.natCast_nonneg _
    by_cases hlt : j < ns.length
    · have hj1 : (j : Int) < (ns.length : Int) := by omega
      obtain ⟨b, o, rfl, -, -, hc⟩ := HS.out.cell j hlt
      have hcj := hc j hlt
      clear hc
      go_wp2
      go_round
      case rel => exact ⟨_, j + 1, hlt, rfl, by go_num⟩
      case measure => simp [intOf]; omega
    · have hj2 : ¬ (j : Int) < (ns.length : Int) := by omega
      by_cases h1 : 40 < d
      · go_wp2
        go_ret2
        exact RoomRes.of _ _ rfl ((Below.refl _ _).alloc (Nat.le_refl _) _)
      by_cases h2 : 600 < q
      · go_wp2
        go_ret2
        exact RoomRes.of _ _ rfl ((Below.refl _ _).alloc (Nat.le_refl _) _)
      go_wp2_with fail
      go_loopw [2, 48] (fun u i wr => ∃ (z : Int) (j : Nat), j ≤ l.length ∧ u = .int .i64 z ∧ i = .int .i64 j ∧ Below w.heap.size w wr) (fun _ i _ => l.length - (intOf i).toNat)
      case atStart => exact ⟨_, 0, Nat.zero_le _, rfl, rfl, (Below.refl _ _).alloc (Nat.le_refl _) _⟩
      case round =>
        obtain ⟨z, j', hj', rfl, rfl, hb⟩ := hrel
        have HB := Lib.hid hb
        have hj0' : (0 : Int) ≤ (j' : Int) := Int.natCast_nonneg _
        by_cases hlt : j' < l.length
        · have hj1 : (j' : Int) < (l.length : Int) := by omega
          obtain ⟨b, o, rfl, hSb, hr⟩ := HL.out.resolve_left (by rintro rfl; simp at hlt)
          have hblt : b < w.heap.size := by
            obtain ⟨cs, hr0, hv⟩ := hr.get j' hlt
            exact hr0.lt (by have := hv.len; rintro rfl; simp at this)
          obtain ⟨cs, hr0, hv⟩ := hr.get j' hlt
          have hr1 : Row wr b (o + 5 * j') cs := hr0.agree (HB.out.block b hblt)
          have HV := Lib.hid hv
          obtain ⟨A1, ca1, B1, cb1, rfl, -⟩ := hv.open
          have e0 := hr1 0 (by simp)
          have e1 := hr1 1 (by simp)
          have e2 := hr1 2 (by simp)
          have e3 := hr1 3 (by simp)
          have e4 := hr1 4 (by simp)
          simp at e0 e1 e2 e3 e4
          rw [Nat.mul_comm] at e0 e1 e2 e3 e4
          clear hr hr0 hr1 hv hb
          go_wp2_with fail
          refine (IH.out _ (List.getElem_mem hlt) _ _ S _ _ (HLB.out _ (List.getElem_mem hlt)) (HV.out.agree fun b hb hlt => ⟨(HB.out.alloc (Nat.le_trans (Nat.le_refl _) HB.out.size) _).block b hlt, hb⟩)).mono ?_
          rintro e w3 ⟨q3, b3, rfl, hb3⟩
          have HB3 := Lib.hid ((HB.out.alloc (Nat.le_trans (Nat.le_refl _) HB.out.size) (.cells #[.int .i64 l[j'].kind, .bool l[j'].tr, .string l[j'].text, .slice A1 l[j'].list.length ca1, .slice B1 l[j'].names.length cb1] 27)).trans (hb3.mono (by have := HB.out.size; simp; omega)))
          clear hb3
          cases b3
          · go_wp2
            go_ret2
            exact RoomRes.of _ _ rfl HB3.out
          · go_wp2
            go_roundw
            case rel => exact ⟨_, j' + 1, hlt, rfl, by go_num, HB3.out⟩
            case measure => simp [intOf]; omega
        · have hj3 : ¬ (j' : Int) < (l.length : Int) := by omega
          go_wp2
          go_ret2
          exact RoomRes.of _ _ rfl HB.out

theorem room_any (v : V) : ∀ (cs : List Value) (w : World) (S : Nat → Prop) (d m : Int), v.bulk ≤ 4194304 → v.Rep w S cs →
    Calls Tryz.prog 55 #[.agg cs.toArray, .int .i64 d, .int .i64 m] w (RoomRes w) := by
  induction v using V.ind with
  | h k t x l n ih =>
    intro cs w S d m hb ⟨A, ca, B, cb, hcs, h1, h2, h3, h4⟩
    subst hcs
    simp only [V.bulk] at hb
    have hn := names_length n
    have hl := V.bulks_length l
    exact room_step k t x l n ih A ca B cb w S d m h3 h4 (by omega) (by omega) (by omega) fun v hv => by have := V.bulks_mem hv; omega

theorem large_any (v : V) (cs : List Value) (w : World) (S : Nat → Prop) (hb : v.bulk ≤ 4194304) (hv : v.Rep w S cs) :
    Calls Tryz.prog 16 #[.agg cs.toArray] w fun e w' => ∃ b : Bool, e = .returned (.bool b) ∧ Below w.heap.size w w' := by
  have hv2 := hv
  obtain ⟨A, ca, B, cb, rfl, -⟩ := hv.open
  have HV := Lib.hid hv2
  clear hv hv2
  go_enter Tryz.func16, Tryz.ntmps16
  go_wp2_with fail
  refine (room_any v [.int .i64 v.kind, .bool v.tr, .string v.text, .slice A v.list.length ca, .slice B v.names.length cb] _ S _ _ hb (by exact HV.out.agree fun b hb hlt => ⟨Below.heap_alloc w _ b hlt, hb⟩)).mono ?_
  rintro e w1 ⟨q, b, rfl, hb1⟩
  have HB := Lib.hid (((Below.refl w.heap.size w).alloc (Nat.le_refl _) (.cells #[.int .i64 v.kind, .bool v.tr, .string v.text, .slice A v.list.length ca, .slice B v.names.length cb] 27)).trans (hb1.mono (by simp)))
  clear hb1
  go_wp2
  go_ret
  exact ⟨!b, rfl, HB.out⟩

end Go.Proofs.YtoimjnmhinfbkaaGreatDoor

namespace Go.Proofs.YtoimjnmhinfbkaaGreatDoor
open Go.RowKit
set_option maxRecDepth 100000

/-- the document's look at nothing, with a code and where. -/
theorem wrong_doc (c : Int) (p : ByteArray) (w : World) :
    Calls Tryz.prog 103 #[.int .i64 c, .string p] w fun e w' => e = .returned (.agg #[.int .i64 0, .bool false, .string ⟨#[]⟩, .slice none 0 0, .slice none 0 0, .string ⟨#[]⟩, .int .i64 c, .string p]) ∧ Below w.heap.size w w' := by
  go_enter Tryz.func103, Tryz.ntmps103
  go_wp2
  refine bodyPost_ret (v := .agg #[.int .i64 0, .bool false, .string ⟨#[]⟩, .slice none 0 0, .slice none 0 0, .string ⟨#[]⟩, .int .i64 c, .string p]) (by simp [results, Tryz.results103, go_sem]) rfl ?_
  refine ⟨rfl, ?_⟩
  (repeat (first | with_reducible refine Below.setCell ?_ (by simp) _))
  exact (Below.refl _ _).alloc (Nat.le_refl _) _

theorem field_doc (k : Int) (t : Bool) (x : ByteArray) (A : Option Addr) (n ca : Nat) (B : Option Addr) (m cb : Nat) (p : ByteArray) (bad : Int) (wh name : ByteArray) (w : World) (hp : p.size ≤ 1073741824) (hn : name.size ≤ 1073741824) :
    Calls Tryz.prog 105 #[.agg #[.int .i64 k, .bool t, .string x, .slice A n ca, .slice B m cb, .string p, .int .i64 bad, .string wh], .string name] w
      fun e w' => e = .returned (.string (fieldPlace p name)) ∧ w' = w.alloc (.cells #[.int .i64 k, .bool t, .string x, .slice A n ca, .slice B m cb, .string p, .int .i64 bad, .string wh] 46) := by
  go_enter Tryz.func105, Tryz.ntmps105
  cases he : p.toList.isEmpty
  · go_wp2
    go_ret
    refine ⟨?_, rfl⟩
    show Ending.returned (.string (p ++ ⟨#[46]⟩ ++ name)) = _
    rw [fieldPlace, if_neg (by simpa using he)]
  · go_wp2
    go_ret
    refine ⟨?_, rfl⟩
    show Ending.returned (.string name) = _
    rw [fieldPlace, if_pos (by simpa using he)]

/-- what the document's functions hand back behind the answer: all right, or a code and where. -/
def docBad (c : Int) (p : ByteArray) : Value := .agg #[.int .i64 0, .bool false, .string ⟨#[]⟩, .slice none 0 0, .slice none 0 0, .string ⟨#[]⟩, .int .i64 c, .string p]

theorem text_doc_kind (k : Int) (t : Bool) (x : ByteArray) (A : Option Addr) (n ca : Nat) (B : Option Addr) (m cb : Nat) (p : ByteArray) (bad : Int) (wh : ByteArray) (most : Int) (w : World) (h : (k == 3) = false) :
    Calls Tryz.prog 65 #[.agg #[.int .i64 k, .bool t, .string x, .slice A n ca, .slice B m cb, .string p, .int .i64 bad, .string wh], .int .i64 most] w
      fun e w' => e = .returned (.tuple #[.string ⟨#[]⟩, docBad 11 p]) ∧ Below w.heap.size w w' := by
  have h2 : (k != 3) = true := by simpa [bne] using h
  go_enter Tryz.func65, Tryz.ntmps65
  go_wp2_with (go_at_call 103; refine (wrong_doc _ _ _).mono ?_; rintro e w1 ⟨rfl, hb1⟩; obtain ⟨hc1, hf1⟩ := bcell hb1; have hz1 : w.heap.size + 1 < w1.heap.size := (by have := hb1.size; simp at this; omega))
  refine bodyPost_ret (v := .tuple #[.string ⟨#[]⟩, docBad 11 p]) (by simp [results, docBad, Tryz.results65, go_sem, hc1, hz1]) rfl ?_
  refine ⟨rfl, ?_⟩
  (repeat (first | with_reducible refine Below.setCell ?_ (by simp) _))
  exact (((Below.refl _ _).alloc (Nat.le_refl _) _).alloc (by simp) _).trans (hb1.mono (by simp; omega))

end Go.Proofs.YtoimjnmhinfbkaaGreatDoor

namespace Go.Proofs.YtoimjnmhinfbkaaGreatDoor
open Go.RowKit
set_option maxRecDepth 100000

theorem text_doc_long (t : Bool) (x : ByteArray) (A : Option Addr) (n ca : Nat) (B : Option Addr) (m cb : Nat) (p : ByteArray) (bad : Int) (wh : ByteArray) (most : Int) (w : World) (hl : x.size ≤ 1073741824) (h : most < x.size) :
    Calls Tryz.prog 65 #[.agg #[.int .i64 3, .bool t, .string x, .slice A n ca, .slice B m cb, .string p, .int .i64 bad, .string wh], .int .i64 most] w
      fun e w' => e = .returned (.tuple #[.string ⟨#[]⟩, docBad 3 p]) ∧ Below w.heap.size w w' := by
  have hd : decide (most < (x.size : Int)) = true := by simpa using h
  clear h
  go_enter Tryz.func65, Tryz.ntmps65
  go_wp2_with (go_at_call 103; refine (wrong_doc _ _ _).mono ?_; rintro e w1 ⟨rfl, hb1⟩; obtain ⟨hc1, hf1⟩ := bcell hb1; have hz1 : w.heap.size + 1 < w1.heap.size := (by have := hb1.size; simp at this; omega))
  refine bodyPost_ret (v := .tuple #[.string ⟨#[]⟩, docBad 3 p]) (by simp [results, docBad, Tryz.results65, go_sem, hc1, hz1]) rfl ?_
  refine ⟨rfl, ?_⟩
  (repeat (first | with_reducible refine Below.setCell ?_ (by simp) _))
  exact (((Below.refl _ _).alloc (Nat.le_refl _) _).alloc (by simp) _).trans (hb1.mono (by simp; omega))

theorem text_doc_some (t : Bool) (x : ByteArray) (A : Option Addr) (n ca : Nat) (B : Option Addr) (m cb : Nat) (p : ByteArray) (bad : Int) (wh : ByteArray) (most : Int) (w : World) (hl : x.size ≤ 1073741824) (h : (x.size : Int) ≤ most) :
    Calls Tryz.prog 65 #[.agg #[.int .i64 3, .bool t, .string x, .slice A n ca, .slice B m cb, .string p, .int .i64 bad, .string wh], .int .i64 most] w
      fun e w' => e = .returned (.tuple #[.string x, docBad 0 ⟨#[]⟩]) ∧ Below w.heap.size w w' := by
  have hd : decide (most < (x.size : Int)) = false := by simpa using h
  clear h
  go_enter Tryz.func65, Tryz.ntmps65
  go_wp2
  refine bodyPost_ret (v := .tuple #[.string x, docBad 0 ⟨#[]⟩]) (by simp [results, docBad, Tryz.results65, go_sem]) rfl ?_
  refine ⟨rfl, ?_⟩
  (repeat (first | with_reducible refine Below.setCell ?_ (by simp) _))
  exact ((Below.refl _ _).alloc (Nat.le_refl _) _).alloc (by simp) _

theorem idx_hit (ns : List ByteArray) (name : ByteArray) (j : Nat) (hj : j < ns.length) (h : ns[j] = name) (hne : ∀ i, i < j → ns.getD i ByteArray.empty ≠ name) : Lib.idxOfS ns name = j := by
  have := Lib.idxOfS_hit ns ns.length j name hj (Nat.le_refl _) (by rw [List.getD_eq_getElem?_getD, List.getElem?_eq_getElem hj]; exact h) hne
  rwa [List.take_length] at this
theorem idx_miss (ns : List ByteArray) (name : ByteArray) (hne : ∀ i, i < ns.length → ns.getD i ByteArray.empty ≠ name) : Lib.idxOfS ns name = -1 := by
  have := Lib.idxOfS_miss ns ns.length name hne
  rwa [List.take_length] at this

theorem str_beq_true {a b : ByteArray} (h : (a.toList == b.toList) = true) : a = b := by
  have h2 : a.toList = b.toList := by simpa using h
  rw [ByteArray.toList_eq, ByteArray.toList_eq] at h2
  exact WideShapes.bytes_inj h2
theorem str_beq_self (a : ByteArray) : (a.toList == a.toList) = true := by simp

set_option maxHeartbeats 800000 in
theorem place_doc (k : Int) (t : Bool) (x : ByteArray) (A : Option Addr) (l : List V) (ca : Nat) (B : Option Addr) (ns : List ByteArray) (cb : Nat) (name : ByteArray) (w : World) (S : Nat → Prop)
    (hS : Strs w S B ns) (hn : ns.length ≤ 8388608) (hl : l.length ≤ 8388608) :
    Calls Tryz.prog 104 #[.agg #[.int .i64 k, .bool t, .string x, .slice A l.length ca, .slice B ns.length cb], .string name] w
      fun e w' => e = .returned (.int .i64 ((V.mk k t x l ns).place name)) ∧ Below w.heap.size w w' := by
  have HS := Lib.hid (hS.agree (w' := w.alloc (.cells #[.int .i64 k, .bool t, .string x, .slice A l.length ca, .slice B ns.length cb] 43)) (S' := S) fun b hb hlt => ⟨Below.heap_alloc w _ b hlt, hb⟩)
  clear hS
  generalize hi : Lib.idxOfS ns name = i
  have HI := Lib.hid hi
  clear hi
  have hp : (V.mk k t x l ns).place name = if k ≠ 5 ∨ (l.length : Int) ≤ i then -1 else i := by simp only [V.place, V.kind, V.list, V.names, HI.out]
  have HP := Lib.hid hp
  clear hp
  go_enter Tryz.func104, Tryz.ntmps104
  go_wp2_with fail
  go_loop [5] (fun u => ∃ j : Nat, j ≤ ns.length ∧ u = .int .i64 j ∧ ∀ i, i < j → ns.getD i ByteArray.empty ≠ name) (fun u => ns.length - (intOf u).toNat)
  case atStart => exact ⟨0, Nat.zero_le _, rfl, fun i hi => absurd hi (Nat.not_lt_zero _)⟩
  case round =>
    obtain ⟨j, hj, rfl, hne⟩ := hrel
    have HNE := Lib.hid hne
    clear hne
    have hj0 : (0 : Int) ≤ (j : Int) := Int.natCast_nonneg _
    by_cases hlt : j < ns.length
    · have hj1 : (j : Int) < (ns.length : Int) := by omega
      obtain ⟨b, o, rfl, -, -, hc⟩ := HS.out.cell j hlt
      have hcj := hc j hlt
      clear hc
      cases hq : (ns[j].toList == name.toList) with
      | false =>
        have hnj : ns[j] ≠ name := by rintro h; rw [h, str_beq_self] at hq; cases hq
        have HNJ := Lib.hid hnj
        clear hnj
        go_wp2
        go_round
        case rel =>
          refine ⟨j + 1, hlt, by go_num, fun i hi => ?_⟩
          by_cases hij : i < j
          · exact HNE.out i hij
          · obtain rfl : i = j := by omega
            rw [List.getD_eq_getElem?_getD, List.getElem?_eq_getElem hlt]; exact HNJ.out
        case measure => simp [intOf]; omega
      | true =>
        have hix := Lib.hid (idx_hit ns name j hlt (str_beq_true hq) HNE.out)
        have hii := Lib.hid (hix.out.symm.trans HI.out)
        by_cases hk : k = 5
        · subst hk
          by_cases hlj : (l.length : Int) ≤ j
          · have hlj2 : l.length ≤ j := by omega
            go_wp2
            go_ret
            refine ⟨?_, (Below.refl _ _).alloc (Nat.le_refl _) _⟩
            rw [HP.out, if_pos (.inr (by rw [← hii.out]; exact hlj))]; rfl
          · have hlj2 : ¬ l.length ≤ j := by omega
            go_wp2
            go_ret
            refine ⟨?_, (Below.refl _ _).alloc (Nat.le_refl _) _⟩
            rw [HP.out, if_neg (by rw [← hii.out]; rintro (h | h) <;> first | exact h rfl | omega), ← hii.out]; rfl
        · have hk2 : (k != 5) = true := by simpa using hk
          have HK := Lib.hid hk
          clear hk
          go_wp2
          go_ret
          refine ⟨?_, (Below.refl _ _).alloc (Nat.le_refl _) _⟩
          rw [HP.out, if_pos (.inl HK.out)]; rfl
    · have hj2 : ¬ (j : Int) < (ns.length : Int) := by omega
      go_wp2
      go_ret
      refine ⟨?_, (Below.refl _ _).alloc (Nat.le_refl _) _⟩
      have hm := idx_miss ns name (fun i hi => HNE.out i (by omega))
      rw [HP.out, ← HI.out, hm]
      congr 2
      split <;> rfl

end Go.Proofs.YtoimjnmhinfbkaaGreatDoor
