import Derived.Test.YtoimjnmhinfbkaaGreatDoorMi
namespace Go.Proofs.YtoimjnmhinfbkaaGreatDoor
open Go.RowKit Go.Shelf
set_option maxRecDepth 100000
attribute [local go_sem] Oper.semAt_some

theorem all_make (k : Int) (t : Bool) (x : ByteArray) (A : Option Addr) (n ca : Nat) (B : Option Addr) (m cb : Nat) (w : World) :
    Calls Tryz.prog 100 #[.agg #[.int .i64 k, .bool t, .string x, .slice A n ca, .slice B m cb]] w fun e w' =>
      e = .returned (.func (.func 130) #[] #[.pointer (some ⟨w.heap.size, 0, none⟩)]) ∧ w' = w.alloc (.cells #[.int .i64 k, .bool t, .string x, .slice A n ca, .slice B m cb] 27) := by
  go_enter Tryz.func100, Tryz.ntmps100
  go_wp2
  go_ret
  exact ⟨rfl, rfl⟩

theorem fields_kind (k : Int) (t : Bool) (x : ByteArray) (A : Option Addr) (n ca : Nat) (B : Option Addr) (m cb : Nat) (p : ByteArray) (w : World) (h : (k == 5) = false) :
    Calls Tryz.prog 58 #[.agg #[.int .i64 k, .bool t, .string x, .slice A n ca, .slice B m cb, .string p]] w (Threw w 11 p) := by
  go_enter Tryz.func58, Tryz.ntmps58
  go_wp2_with (go_at_call 51; refine (kind_no _ _ _ _ _ _ _ _ _ _ _ _ h).mono ?_; rintro e w' ⟨g, rfl, h⟩)
  exact ⟨rfl, Threw.of ⟨g, rfl, h⟩ ((Below.refl _ _).alloc (Nat.le_refl _) _)⟩

/-- the looks that a list of looks holds. -/
def PLooks (w' : World) (S : Nat → Prop) (lo : Nat) (A' : Option Addr) (l : List V) (place : Nat → ByteArray) : Prop :=
  l = [] ∨ ∃ g, A' = some ⟨g, 0, none⟩ ∧ lo ≤ g ∧ g < w'.heap.size ∧ ∀ i, ∀ hi : i < l.length, ∃ cs, Row w' g (6 * i) (cs ++ [.string (place i)]) ∧ (l[i]).Rep w' S cs

def FieldsRes (w : World) (l : List V) (n : Nat) (pl : Nat → ByteArray) (e : Ending) (w' : World) : Prop :=
  ∃ A' c', e = .returned (.slice A' n c') ∧ Below w.heap.size w w' ∧ n ≤ c' ∧ PLooks w' (fun b => w.heap.size ≤ b ∧ b < w'.heap.size) w.heap.size A' (l.take n) pl

/-- what the round's region reads and leaves: the value's box, the look. -/
def FieldsS (Bx L : Nat) (y : Yl) (t : Bool) (x : ByteArray) (A : Option Addr) (n ca : Nat) (Bn : Option Addr) (m cb : Nat) (p : ByteArray) (w' : World) : Prop :=
  w'.cell? ⟨Bx, 0, none⟩ = some (.int .i64 y.k) ∧ w'.cell? ⟨Bx, 1, none⟩ = some (.bool y.t) ∧ w'.cell? ⟨Bx, 2, none⟩ = some (.string y.x) ∧ w'.cell? ⟨Bx, 3, none⟩ = some (.slice y.A y.n y.ca) ∧ w'.cell? ⟨Bx, 4, none⟩ = some (.slice y.B y.m y.cb) ∧
    w'.cell? ⟨L, 0, none⟩ = some (.int .i64 5) ∧ w'.cell? ⟨L, 1, none⟩ = some (.bool t) ∧ w'.cell? ⟨L, 2, none⟩ = some (.string x) ∧ w'.cell? ⟨L, 3, none⟩ = some (.slice A n ca) ∧ w'.cell? ⟨L, 4, none⟩ = some (.slice Bn m cb) ∧ w'.cell? ⟨L, 5, none⟩ = some (.string p)

theorem FieldsS.keep {Bx L : Nat} {y : Yl} {t : Bool} {x : ByteArray} {A : Option Addr} {n ca : Nat} {Bn : Option Addr} {m cb : Nat} {p : ByteArray} {W W' : World} (h : FieldsS Bx L y t x A n ca Bn m cb p W)
    (h1 : W'.heap[Bx]? = W.heap[Bx]?) (h2 : W'.heap[L]? = W.heap[L]?) : FieldsS Bx L y t x A n ca Bn m cb p W' := by
  obtain ⟨a0, a1, a2, a3, a4, b0, b1, b2, b3, b4, b5⟩ := h
  exact ⟨(cell_of_heap h1).trans a0, (cell_of_heap h1).trans a1, (cell_of_heap h1).trans a2, (cell_of_heap h1).trans a3, (cell_of_heap h1).trans a4, (cell_of_heap h2).trans b0, (cell_of_heap h2).trans b1, (cell_of_heap h2).trans b2, (cell_of_heap h2).trans b3, (cell_of_heap h2).trans b4, (cell_of_heap h2).trans b5⟩

theorem fields_done {w : World} {l : List V} {ns : List ByteArray} {p : ByteArray} {lc vc : Array Value} {O Bv B : Nat} {A' : Option Addr} {n c' : Nat} {ys : List Yl} {W : World} {pl : Nat → ByteArray} (hB : w.heap.size < B) (hys : ys.length = n) (hnl : n ≤ l.length)
    (hpl : ∀ j, ∀ hj : j < ns.length, pl j = fieldPlace p ns[j]) (hU : FieldsU w l ns p lc vc O Bv B (.slice A' n c') ys W) (hc : n ≤ c')
    (hrr : (A' = none ∧ n = 0) ∨ ∃ g, A' = some ⟨g, 0, none⟩ ∧ B + 2 ≤ g ∧ g < W.heap.size ∧ Row W g 0 (ylooks p ys) ∧ ∀ o, W.frozen? ⟨g, o, none⟩ = false) (o : Obj) :
    FieldsRes w l n pl (.returned (.slice A' n c')) (W.putObj B o) := by
  obtain ⟨h1, h2, h3, h4, h5, h6⟩ := hU
  have hs := h1.size
  have hz : (W.putObj B o).heap.size = W.heap.size := by simp [World.putObj]
  have key : ∀ b, b ≠ B → (W.putObj B o).heap[b]? = W.heap[b]? := fun b hb => World.putObj_heap_other hb
  refine ⟨A', c', rfl, h1.grown (grownBy_putObj' W B o) hs (fun k e => by cases e; omega), hc, ?_⟩
  rcases hrr with ⟨rfl, h0⟩ | ⟨g, rfl, hg1, hg2, hg3, -⟩
  · exact .inl (by rw [h0]; rfl)
  · refine .inr ⟨g, rfl, by omega, by omega, fun i hi => ?_⟩
    have hin : i < n := by rw [List.length_take] at hi; omega
    obtain ⟨h7, v, h8, h9⟩ := h6 i (by omega)
    refine ⟨ys[i].cells, ?_, ?_⟩
    · have hp := row_part hg3 (6 * i) 6
      rw [Nat.zero_add, ylooks_at p ys i (by omega)] at hp
      obtain ⟨hj, he⟩ := List.getElem?_eq_some_iff.1 h7
      rw [hpl i hj, he]
      exact hp.agree (key g (by omega))
    · rw [List.getElem_take]
      obtain ⟨hj, he⟩ := List.getElem?_eq_some_iff.1 h8
      rw [he]
      exact h9.agree fun b hb hlt => ⟨key b (by omega), by omega, by omega⟩

set_option maxHeartbeats 2000000 in
theorem fields_some (t : Bool) (x : ByteArray) (A : Option Addr) (l : List V) (ca : Nat) (Bn : Option Addr) (ns : List ByteArray) (cb : Nat) (p : ByteArray) (w : World) (S : Nat → Prop) (n : Nat) (pl : Nat → ByteArray)
    (hS : Strs w S Bn ns) (hL : l = [] ∨ ∃ b o, A = some ⟨b, o, none⟩ ∧ S b ∧ V.Reps w S b o l) (hlb : ∀ v ∈ l, v.bulk ≤ 4194304) (hll : l.length ≤ 4194304) (hnb : ∀ s ∈ ns, s.size ≤ 1073741824) (hp : p.size ≤ 1073741824) (hmin : n = min ns.length l.length)
    (hpl : ∀ j, ∀ hj : j < ns.length, pl j = fieldPlace p ns[j]) :
    Calls Tryz.prog 58 #[.agg #[.int .i64 5, .bool t, .string x, .slice A l.length ca, .slice Bn ns.length cb, .string p]] w (FieldsRes w l n pl) := by
  have HS := Lib.hid hS
  have HL := Lib.hid hL
  have HLB := Lib.hid hlb
  have HNB := Lib.hid hnb
  have HPL := Lib.hid hpl
  have HMIN := Lib.hid hmin
  clear hS hL hlb hnb hpl hmin
  obtain ⟨i0, hi0, hz0, hzz1, hzz2⟩ := info_parts info32
  refine (callsIn_wide (n := 3)).1 ?_
  refine callsIn_of_wp_marks Tryz.func58 rfl trivial ?_ rfl
  simp only [Tryz.ntmps58, List.size_toArray, List.length_cons, List.length_nil, Nat.reduceAdd, Nat.reduceSub, Array.replicate_succ, Array.replicate_zero, List.push_toArray, List.append_toArray, List.nil_append, List.cons_append]
  gi_wp2_with (first | (refine ⟨trivial, ?_⟩; gi_at_call 51; refine (callsIn_wide.2 (kind_yes _ _ _ _ _ _ _ _ _ _ _ _ (by rfl))).mono ?_; rintro e w1 ⟨rfl, hb1⟩; obtain ⟨hc1, hf1⟩ := bcell hb1; have hz1 : w.heap.size < w1.heap.size := (by have := hb1.size; simp at this; omega)) | (refine ⟨trivial, ?_⟩; gi_at_call 100; refine (callsIn_wide.2 (all_make _ _ _ _ _ _ _ _ _ _)).mono ?_; rintro e w2 ⟨rfl, rfl⟩))
  have hb0 : Below w.heap.size w w1 := ((Below.refl _ _).alloc (Nat.le_refl _) _).trans (hb1.mono (by simp))
  have hL0 : w1.heap[w.heap.size]? = some (.cells #[.int .i64 5, .bool t, .string x, .slice A l.length ca, .slice Bn ns.length cb, .string p] 32 (0, 0)) := (hb1.block _ (by simp)).trans (heap_alloc_new w _)
  have HB0 := Lib.hid hb0
  have HL0 := Lib.hid hL0
  clear hb1 hc1 hf1 hb0 hL0
  have hsz : ((w1.alloc (.cells #[.slice none 0 0] 102)).alloc (.cells #[.int .i64 5, .bool t, .string x, .slice A l.length ca, .slice Bn ns.length cb] 27)).heap.size = w1.heap.size + 1 + 1 := by simp
  refine range_told (n := 3) (by omega) (gf := 130) (lb := #[.pointer (some ⟨w1.heap.size + 1, 0, none⟩)]) rfl (enters_of Tryz.func130 (by kernel_rfl) rfl) (encs := Yl.encs) (fun _ => rfl)
    (Told (w1.heap.size + 1 + 1) (FieldsI w l ns p #[.int .i64 5, .bool t, .string x, .slice A l.length ca, .slice Bn ns.length cb, .string p] #[.int .i64 5, .bool t, .string x, .slice A l.length ca, .slice Bn ns.length cb] w1.heap.size (w1.heap.size + 1) (w1.heap.size + 1 + 1)) l ns)
    (FieldsI w l ns p #[.int .i64 5, .bool t, .string x, .slice A l.length ca, .slice Bn ns.length cb, .string p] #[.int .i64 5, .bool t, .string x, .slice A l.length ca, .slice Bn ns.length cb] w1.heap.size (w1.heap.size + 1) (w1.heap.size + 1 + 1))
    (fun ys => ys.length = n) (Also (fun b => b < w1.heap.size + 1 + 1 ∧ b ≠ w1.heap.size)) (fun h k => h.trans k) ?kb ?ki ?kn ?k0 ?kseq
    (FieldsR w l ns p #[.int .i64 5, .bool t, .string x, .slice A l.length ca, .slice Bn ns.length cb, .string p] #[.int .i64 5, .bool t, .string x, .slice A l.length ca, .slice Bn ns.length cb] w1.heap.size (w1.heap.size + 1) (w1.heap.size + 1 + 1)
      (fun nm bx ag => #[.agg #[.int .i64 5, .bool t, .string x, .slice A l.length ca, .slice Bn ns.length cb, .string p], .pointer (some ⟨w.heap.size, 0, none⟩), .slice none 0 0, .pointer (some ⟨w1.heap.size, 0, none⟩), nm, bx, .agg #[.int .i64 5, .bool t, .string x, .slice A l.length ca, .slice Bn ns.length cb, .string p], .tuple #[], .pointer (some ⟨w.heap.size, 0, none⟩), .agg #[.int .i64 5, .bool t, .string x, .slice A l.length ca, .slice Bn ns.length cb], .func (.func 130) #[] #[.pointer (some ⟨w1.heap.size + 1, 0, none⟩)], nm, ag, undef, undef, undef, undef, undef, undef, undef, undef, undef]))
    ?ku ?kassign ?kbody ?kdone
  case kb =>
    intro W o'
    rw [hsz]
    exact ⟨by simp, fun b hb hlt => World.putObj_heap_other (by omega)⟩
  case ki =>
    intro s
    rw [hsz]
    exact FieldsI.abid (by omega) (by omega) (by omega) s
  case kn => exact fun s W W' h hb => h.below (by omega) (by omega) (by omega) hb
  case k0 =>
    refine ⟨.slice none 0 0, ?_, ?_, ?_, ?_, World.ownsRow_nil _ _ _ _, fun i hi => by simp at hi⟩
    · exact ((HB0.out.alloc (by omega) _).alloc (by simp; omega) _)
    · rw [alloc_before (by simp; omega), alloc_before hz1]; exact HL0.out
    · exact alloc_at (by simp)
    · rw [alloc_before (by simp)]; exact alloc_at rfl
  case kseq =>
    rw [hsz]
    intro lp J W hW hJ hJI hY h0
    have hWB : Below w.heap.size w W := ((HB0.out.alloc (by omega) _).alloc (by simp; omega) _).trans (hW.mono (by omega))
    refine all1_any lp w S t x A l ca Bn ns cb (w1.heap.size + 1) (w1.heap.size + 1 + 1) (fun b => b < w1.heap.size + 1 + 1 ∧ b ≠ w1.heap.size) HS.out HL.out HLB.out hll n HMIN.out _ J hJ hJI hY W
      (fun b hb => hWB.block b hb) hWB.size (fun b hb => by omega) ?_ h0
    rw [hW.block _ (by omega)]
    exact alloc_at (by simp)
  case ku =>
    intro s y a'
    rw [hsz]
    exact FieldsR.abid (by omega) (by omega) (by omega) s y a'
  case kassign =>
    rw [hsz]
    rintro lp pre y W K ⟨u, hU⟩ ⟨hn, v, Wc, hv, ⟨uc, hUc⟩, hWc, hbW, hr⟩ hW hK
    have hO : w1.heap.size < Wc.heap.size := (Array.getElem?_eq_some_iff.1 hUc.2.2.2.1).1
    have hu : u = uc := by
      have h1 := hU.2.2.2.1
      rw [hbW.block _ hO, hUc.2.2.2.1] at h1
      simpa using h1.symm
    have hlt := World.ownsRow.lt hUc.2.2.2.2.1
    rw [← hu] at hlt
    have HU := Lib.hid (hU.carry (W' := W.alloc (.cells #[.int .i64 y.k, .bool y.t, .string y.x, .slice y.A y.n y.ca, .slice y.B y.m y.cb] 27)) (by omega) (by omega) (by omega) ((Below.refl _ _).alloc hU.1.size _) (fun b hb _ _ => Below.heap_alloc W _ b hb))
    have HR := Lib.hid (V.Rep.agree (w' := W.alloc (.cells #[.int .i64 y.k, .bool y.t, .string y.x, .slice y.A y.n y.ca, .slice y.B y.m y.cb] 27)) (S' := fun b => Wc.heap.size ≤ b ∧ b < W.heap.size) (fun b hb hlt => ⟨Below.heap_alloc W _ b hlt, hb⟩) _ hr)
    have hs := hbW.size
    have HLT := Lib.hid hlt
    have HN := Lib.hid hn
    have HV := Lib.hid hv
    clear hU hUc hu hlt hr hn hv hbW
    simp only [Yl.encs]
    gi_wp2
    refine hK _ _ (KeepsOthers.alloc _ _) ⟨by simp, fun b _ hb => Below.heap_alloc W _ b hb⟩ ⟨W.heap.size, u, Wc.heap.size, v, rfl, HU.out, by simp; omega, alloc_at rfl, by omega, by omega, fun k hk => (HLT.out k hk).2, hs, HN.out, HV.out, HR.out⟩
  case kbody =>
    rintro lp pre y a' W ⟨Bx, u, lo, v, rfl, hU, hW, hBx, hBx2, hlo, hul, hlo2, hn, hv, hr⟩
    have hBl : Bx < W.heap.size := (Array.getElem?_eq_some_iff.1 hBx).1
    have hnm : y.name.size ≤ 1073741824 := by
      obtain ⟨hj, he⟩ := List.getElem?_eq_some_iff.1 hn
      rw [← he]
      exact HNB.out _ (List.getElem_mem hj)
    have hpl : pre.length < 4194304 := by
      have := (List.getElem?_eq_some_iff.1 hv).1
      omega
    have HU := Lib.hid hU
    have HR := Lib.hid hr
    have HN := Lib.hid hn
    have HV := Lib.hid hv
    have HUL := Lib.hid hul
    have hwl : w.heap.size < W.drew.heap.size := by show w.heap.size < W.heap.size; omega
    have hOl : w1.heap.size < W.drew.heap.size := by show w1.heap.size < W.heap.size; omega
    have hdr : W.drew.heap.size = W.heap.size := rfl
    have HNO := Lib.hid (show ∀ b, b < w1.heap.size + 1 + 1 + 2 → some b ≠ u.ownBlock from fun b hb e => by have := (World.ownsRow.lt hU.2.2.2.2.1 b e.symm).1; omega)
    have HBU := Lib.hid (show some Bx ≠ u.ownBlock from fun e => by have := hul Bx e.symm; omega)
    have HSZ := Lib.hid hdr
    clear hdr
    have hown := Lib.hid hU.2.2.2.2.1
    have cu : W.drew.cell? ⟨w1.heap.size, 0, none⟩ = some u := cell_of_row W _ 0 _ 102 (0, 0) hU.2.2.2.1
    have fu : W.drew.frozen? ⟨w1.heap.size, 0, none⟩ = false := by rw [frozen_drew_own]; simp [World.frozen?, hU.2.2.2.1]
    have hbx := fun o => cell_of_row W Bx o _ 27 (0, 0) hBx
    have b0 := hbx 0
    have b1 := hbx 1
    have b2 := hbx 2
    have b3 := hbx 3
    have b4 := hbx 4
    have hlk := fun o => cell_of_row W w.heap.size o _ 32 (0, 0) hU.2.1
    have l0 := hlk 0
    have l1 := hlk 1
    have l2 := hlk 2
    have l3 := hlk 3
    have l4 := hlk 4
    have l5 := hlk 5
    simp at b0 b1 b2 b3 b4 l0 l1 l2 l3 l4 l5
    clear hU hr hn hv hul hbx hlk
    gi_wp2
    refine region_in_round (FieldsS Bx w.heap.size y t x A l.length ca Bn ns.length cb p) (by kernel_rfl) (by kernel_rfl) ?hno ?_
    case hno =>
      rintro ⟨a, w', h⟩
      exact h
    have hS1 : FieldsS Bx w.heap.size y t x A l.length ca Bn ns.length cb p W.drew := ⟨b0, b1, b2, b3, b4, l0, l1, l2, l3, l4, l5⟩
    refine wpAnyH_take (i := 1) rfl (v := .agg #[.int .i64 y.k, .bool y.t, .string y.x, .slice y.A y.n y.ca, .slice y.B y.m y.cb]) (by kernel_rfl) (by kernel_rfl) (by kernel_rfl) (fun _ _ _ h => h) (Or.inl ⟨by rfl, ?_⟩) hS1 ?_
    · intro w hSw
      obtain ⟨s0, s1, s2, s3, s4, -⟩ := hSw
      go_simp
    try simp only [Act.put, List.setIfInBounds_toArray, List.set_cons_zero, List.set_cons_succ]
    refine wpAnyH_take (i := 2) rfl (v := .agg #[.int .i64 5, .bool t, .string x, .slice A l.length ca, .slice Bn ns.length cb, .string p]) (by kernel_rfl) (by kernel_rfl) (by kernel_rfl) (fun _ _ _ h => h) (Or.inl ⟨by rfl, ?_⟩) hS1 ?_
    · intro w hSw
      obtain ⟨-, -, -, -, -, s0, s1, s2, s3, s4, s5⟩ := hSw
      go_simp
    try simp only [Act.put, List.setIfInBounds_toArray, List.set_cons_zero, List.set_cons_succ]
    refine wpAnyH_take (i := 3) rfl (v := .string y.name) (by kernel_rfl) (by kernel_rfl) (by kernel_rfl) (fun _ _ _ h => h) (Or.inl ⟨by rfl, ?_⟩) hS1 ?_
    · intro w hSw
      go_simp
    try simp only [Act.put, List.setIfInBounds_toArray, List.set_cons_zero, List.set_cons_succ]
    refine wpAnyH_ready (rs := [0, 4]) (by kernel_rfl) (by simp) ?_
    refine AllReadyH.cons (o := _) rfl (fun K hK => ?_) (AllReadyH.cons (o := _) rfl (fun K hK => ?_) AllReadyH.nil)
    · go_simp
      refine hK.out _ _ hS1 (fun hH => ?_)
      clear hK K
      try simp only [Act.put, List.setIfInBounds_toArray, List.set_cons_zero, List.set_cons_succ]
      refine wpAnyH_ready (rs := [4]) (by kernel_rfl) (by simp) ?_
      refine AllReadyH.cons (o := _) rfl (fun K hK => ?_) AllReadyH.nil
      go_simp
      go_at_call 101
      refine (field_any _ _ _ _ _ _ _ _ _ _ _ _ hp hnm).mono ?_
      rintro e w2 ⟨rfl, rfl⟩
      refine hK.out _ _ ?_ (fun hH => ?_)
      · exact hS1.keep (Below.heap_alloc _ _ _ hBl) (Below.heap_alloc _ _ _ hwl)
      clear hK K
      try simp only [Act.put, List.setIfInBounds_toArray, List.set_cons_zero, List.set_cons_succ]
      refine wpAnyH_take (i := 5) rfl (v := .agg #[.int .i64 y.k, .bool y.t, .string y.x, .slice y.A y.n y.ca, .slice y.B y.m y.cb, .string (fieldPlace p y.name)]) (by kernel_rfl) (by kernel_rfl) (by kernel_rfl) (fun _ _ _ h => h) (Or.inl ⟨by rfl, ?_⟩) hH ?_
      · intro w hSw
        go_simp
      try simp only [Act.put, List.setIfInBounds_toArray, List.set_cons_zero, List.set_cons_succ]
      refine wpAnyH_ready (rs := [6]) (by kernel_rfl) (by simp) ?_
      refine AllReadyH.cons (o := _) rfl (fun K hK => ?_) AllReadyH.nil
      go_simp
      refine hK.out _ _ (hH.keep (Below.heap_alloc _ _ _ (by simp; omega)) (Below.heap_alloc _ _ _ (by simp; omega))) (fun hH2 => ?_)
      clear hK K hH
      try simp only [Act.put, List.setIfInBounds_toArray, List.set_cons_zero, List.set_cons_succ]
      refine wpAnyH_ready (rs := [7]) (by kernel_rfl) (by simp) ?_
      refine AllReadyH.cons (o := _) rfl (fun K hK => ?_) AllReadyH.nil
      refine step_append_lies _ (by rfl) _ _ _ (by rfl) (w1.heap.size + 1 + 1 + 2) 32 i0 _ 6 96 Tryz.underlying102 hi0 hz0 hzz1 hzz2 rfl (by omega) u pre.length (ylooks p pre) (by rfl) (own_below hown.out ((((Below.refl _ _).drew).alloc (Nat.le_refl _) _).alloc (by simp [HSZ.out]) _)) ⟨W.heap.size + 1, 0, none⟩ 1 1 [.int .i64 y.k, .bool y.t, .string y.x, .slice y.A y.n y.ca, .slice y.B y.m y.cb, .string (fieldPlace p y.name)] (by rfl) (by rfl) (World.news_of_block (cs := #[.int .i64 y.k, .bool y.t, .string y.x, .slice y.A y.n y.ca, .slice y.B y.m y.cb, .string (fieldPlace p y.name)]) (t := 32) (fr := (0, 0)) (alloc_at (by simp [HSZ.out]))) (by simp [Value.oneCell']) (by omega) (by unfold maxLen; omega) (by omega) (by simp [HSZ.out]; omega) (W.heap.size + 1 + 1) (by simp [HSZ.out]) ?_
      intro gg cap w4 hown4 hgrow4 hat4 hlt4
      have hS4 : FieldsS Bx w.heap.size y t x A l.length ca Bn ns.length cb p w4 := hH2.keep (hgrow4.block _ (by simp [HSZ.out]; omega) HBU.out) (hgrow4.block _ (by simp [HSZ.out]; omega) (HNO.out _ (by omega)))
      refine hK.out _ _ hS4 (fun hH3 => ?_)
      clear hK K hH2
      try simp only [Act.put, List.setIfInBounds_toArray, List.set_cons_zero, List.set_cons_succ]
      have c4 : w4.cell? ⟨w1.heap.size, 0, none⟩ = some u := (World.grownBy.cell_far hgrow4 ⟨w1.heap.size, 0, none⟩ (by show w1.heap.size < _; simp [HSZ.out]; omega) (HNO.out _ (by show w1.heap.size < _; omega))).trans ((cell_of_heap ((Below.heap_alloc _ _ _ (by show w1.heap.size < _; simp [HSZ.out]; omega)).trans (Below.heap_alloc _ _ _ hOl))).trans cu)
      have f4 : w4.frozen? ⟨w1.heap.size, 0, none⟩ = false := (World.grownBy.frozen_far hgrow4 ⟨w1.heap.size, 0, none⟩ (by show w1.heap.size < _; simp [HSZ.out]; omega) (HNO.out _ (by show w1.heap.size < _; omega))).trans ((World.frozen?_of_block ((Below.heap_alloc _ _ _ (by show w1.heap.size < _; simp [HSZ.out]; omega)).trans (Below.heap_alloc _ _ _ hOl))).trans fu)
      refine wpAnyH_ready (rs := [8]) (by kernel_rfl) (by simp) ?_
      refine AllReadyH.cons (o := _) rfl (fun K hK => ?_) AllReadyH.nil
      go_simp
      refine hK.out _ _ (hH3.keep (Below.heap_setCell _ _ _ _ (by show Bx ≠ w1.heap.size; omega)) (Below.heap_setCell _ _ _ _ (by show w.heap.size ≠ w1.heap.size; omega))) (fun _ => ?_)
      clear hK K
      refine wpAnyH_done (by kernel_rfl) ?_ _
      exact fields_round (Bx := Bx) (v := v) (lo := lo) (by omega) (by omega) (by omega) (by omega) (by omega) HU.out hW hlo HUL.out HN.out HV.out HR.out hBl (((Below.refl _ _).drew).alloc (Nat.le_refl _) _) hgrow4 (hat4.imp id (fun h => by rw [h]; simp [HSZ.out])) hown4
    · go_simp
      go_at_call 101
      refine (field_any _ _ _ _ _ _ _ _ _ _ _ _ hp hnm).mono ?_
      rintro e w2 ⟨rfl, rfl⟩
      refine hK.out _ _ ?_ (fun hH => ?_)
      · exact hS1.keep (Below.heap_alloc _ _ _ hBl) (Below.heap_alloc _ _ _ hwl)
      clear hK K
      try simp only [Act.put, List.setIfInBounds_toArray, List.set_cons_zero, List.set_cons_succ]
      refine wpAnyH_take (i := 5) rfl (v := .agg #[.int .i64 y.k, .bool y.t, .string y.x, .slice y.A y.n y.ca, .slice y.B y.m y.cb, .string (fieldPlace p y.name)]) (by kernel_rfl) (by kernel_rfl) (by kernel_rfl) (fun _ _ _ h => h) (Or.inl ⟨by rfl, ?_⟩) hH ?_
      · intro w hSw
        go_simp
      try simp only [Act.put, List.setIfInBounds_toArray, List.set_cons_zero, List.set_cons_succ]
      have hOl2 : w1.heap.size < W.heap.size := hOl
      have cu2 : (W.alloc (.cells #[.int .i64 5, .bool t, .string x, .slice A l.length ca, .slice Bn ns.length cb, .string p] 32)).cell? ⟨w1.heap.size, 0, none⟩ = some u := (cell_of_heap (Below.heap_alloc _ _ _ hOl2)).trans cu
      have cu3 : ((W.alloc (.cells #[.int .i64 5, .bool t, .string x, .slice A l.length ca, .slice Bn ns.length cb, .string p] 32)).alloc (.cells #[.int .i64 y.k, .bool y.t, .string y.x, .slice y.A y.n y.ca, .slice y.B y.m y.cb, .string (fieldPlace p y.name)] 32)).cell? ⟨w1.heap.size, 0, none⟩ = some u := (cell_of_heap (Below.heap_alloc _ _ _ (by show w1.heap.size < _; simp; omega))).trans cu2
      refine wpAnyH_ready (rs := [0, 6]) (by kernel_rfl) (by simp) ?_
      refine AllReadyH.cons (o := _) rfl (fun K hK => ?_) (AllReadyH.cons (o := _) rfl (fun K hK => ?_) AllReadyH.nil)
      · go_simp
        refine hK.out _ _ hH (fun _ => ?_)
        clear hK K
        try simp only [Act.put, List.setIfInBounds_toArray, List.set_cons_zero, List.set_cons_succ]
        refine wpAnyH_ready (rs := [6]) (by kernel_rfl) (by simp) ?_
        refine AllReadyH.cons (o := _) rfl (fun K hK => ?_) AllReadyH.nil
        go_simp
        refine hK.out _ _ (hH.keep (Below.heap_alloc _ _ _ (by simp; omega)) (Below.heap_alloc _ _ _ (by simp; omega))) (fun hH2 => ?_)
        clear hK K hH
        try simp only [Act.put, List.setIfInBounds_toArray, List.set_cons_zero, List.set_cons_succ]
        refine wpAnyH_ready (rs := [7]) (by kernel_rfl) (by simp) ?_
        refine AllReadyH.cons (o := _) rfl (fun K hK => ?_) AllReadyH.nil
        refine step_append_lies _ (by rfl) _ _ _ (by rfl) (w1.heap.size + 1 + 1 + 2) 32 i0 _ 6 96 Tryz.underlying102 hi0 hz0 hzz1 hzz2 rfl (by omega) u pre.length (ylooks p pre) (by rfl) (own_below hown.out ((((Below.refl _ _).drew).alloc (Nat.le_refl _) _).alloc (by simp [HSZ.out]) _)) ⟨W.heap.size + 1, 0, none⟩ 1 1 [.int .i64 y.k, .bool y.t, .string y.x, .slice y.A y.n y.ca, .slice y.B y.m y.cb, .string (fieldPlace p y.name)] (by rfl) (by rfl) (World.news_of_block (cs := #[.int .i64 y.k, .bool y.t, .string y.x, .slice y.A y.n y.ca, .slice y.B y.m y.cb, .string (fieldPlace p y.name)]) (t := 32) (fr := (0, 0)) (alloc_at (by simp [HSZ.out]))) (by simp [Value.oneCell']) (by omega) (by unfold maxLen; omega) (by omega) (by simp [HSZ.out]; omega) (W.heap.size + 1 + 1) (by simp [HSZ.out]) ?_
        intro gg cap w4 hown4 hgrow4 hat4 hlt4
        have hS4 : FieldsS Bx w.heap.size y t x A l.length ca Bn ns.length cb p w4 := hH2.keep (hgrow4.block _ (by simp [HSZ.out]; omega) HBU.out) (hgrow4.block _ (by simp [HSZ.out]; omega) (HNO.out _ (by omega)))
        refine hK.out _ _ hS4 (fun hH3 => ?_)
        clear hK K hH2
        try simp only [Act.put, List.setIfInBounds_toArray, List.set_cons_zero, List.set_cons_succ]
        have c4 : w4.cell? ⟨w1.heap.size, 0, none⟩ = some u := (World.grownBy.cell_far hgrow4 ⟨w1.heap.size, 0, none⟩ (by show w1.heap.size < _; simp [HSZ.out]; omega) (HNO.out _ (by show w1.heap.size < _; omega))).trans ((cell_of_heap ((Below.heap_alloc _ _ _ (by show w1.heap.size < _; simp [HSZ.out]; omega)).trans (Below.heap_alloc _ _ _ hOl))).trans cu)
        have f4 : w4.frozen? ⟨w1.heap.size, 0, none⟩ = false := (World.grownBy.frozen_far hgrow4 ⟨w1.heap.size, 0, none⟩ (by show w1.heap.size < _; simp [HSZ.out]; omega) (HNO.out _ (by show w1.heap.size < _; omega))).trans ((World.frozen?_of_block ((Below.heap_alloc _ _ _ (by show w1.heap.size < _; simp [HSZ.out]; omega)).trans (Below.heap_alloc _ _ _ hOl))).trans fu)
        refine wpAnyH_ready (rs := [8]) (by kernel_rfl) (by simp) ?_
        refine AllReadyH.cons (o := _) rfl (fun K hK => ?_) AllReadyH.nil
        go_simp
        refine hK.out _ _ (hH3.keep (Below.heap_setCell _ _ _ _ (by show Bx ≠ w1.heap.size; omega)) (Below.heap_setCell _ _ _ _ (by show w.heap.size ≠ w1.heap.size; omega))) (fun _ => ?_)
        clear hK K
        refine wpAnyH_done (by kernel_rfl) ?_ _
        exact fields_round (Bx := Bx) (v := v) (lo := lo) (by omega) (by omega) (by omega) (by omega) (by omega) HU.out hW hlo HUL.out HN.out HV.out HR.out hBl (((Below.refl _ _).drew).alloc (Nat.le_refl _) _) hgrow4 (hat4.imp id (fun h => by rw [h]; simp [HSZ.out])) hown4
      · go_simp
        refine hK.out _ _ (hH.keep (Below.heap_alloc _ _ _ (by simp; omega)) (Below.heap_alloc _ _ _ (by simp; omega))) (fun hH2 => ?_)
        clear hK K hH
        try simp only [Act.put, List.setIfInBounds_toArray, List.set_cons_zero, List.set_cons_succ]
        refine wpAnyH_ready (rs := [0]) (by kernel_rfl) (by simp) ?_
        refine AllReadyH.cons (o := _) rfl (fun K hK => ?_) AllReadyH.nil
        go_simp
        refine hK.out _ _ hH2 (fun _ => ?_)
        clear hK K
        try simp only [Act.put, List.setIfInBounds_toArray, List.set_cons_zero, List.set_cons_succ]
        refine wpAnyH_ready (rs := [7]) (by kernel_rfl) (by simp) ?_
        refine AllReadyH.cons (o := _) rfl (fun K hK => ?_) AllReadyH.nil
        refine step_append_lies _ (by rfl) _ _ _ (by rfl) (w1.heap.size + 1 + 1 + 2) 32 i0 _ 6 96 Tryz.underlying102 hi0 hz0 hzz1 hzz2 rfl (by omega) u pre.length (ylooks p pre) (by rfl) (own_below hown.out ((((Below.refl _ _).drew).alloc (Nat.le_refl _) _).alloc (by simp [HSZ.out]) _)) ⟨W.heap.size + 1, 0, none⟩ 1 1 [.int .i64 y.k, .bool y.t, .string y.x, .slice y.A y.n y.ca, .slice y.B y.m y.cb, .string (fieldPlace p y.name)] (by rfl) (by rfl) (World.news_of_block (cs := #[.int .i64 y.k, .bool y.t, .string y.x, .slice y.A y.n y.ca, .slice y.B y.m y.cb, .string (fieldPlace p y.name)]) (t := 32) (fr := (0, 0)) (alloc_at (by simp [HSZ.out]))) (by simp [Value.oneCell']) (by omega) (by unfold maxLen; omega) (by omega) (by simp [HSZ.out]; omega) (W.heap.size + 1 + 1) (by simp [HSZ.out]) ?_
        intro gg cap w4 hown4 hgrow4 hat4 hlt4
        have hS4 : FieldsS Bx w.heap.size y t x A l.length ca Bn ns.length cb p w4 := hH2.keep (hgrow4.block _ (by simp [HSZ.out]; omega) HBU.out) (hgrow4.block _ (by simp [HSZ.out]; omega) (HNO.out _ (by omega)))
        refine hK.out _ _ hS4 (fun hH3 => ?_)
        clear hK K hH2
        try simp only [Act.put, List.setIfInBounds_toArray, List.set_cons_zero, List.set_cons_succ]
        have c4 : w4.cell? ⟨w1.heap.size, 0, none⟩ = some u := (World.grownBy.cell_far hgrow4 ⟨w1.heap.size, 0, none⟩ (by show w1.heap.size < _; simp [HSZ.out]; omega) (HNO.out _ (by show w1.heap.size < _; omega))).trans ((cell_of_heap ((Below.heap_alloc _ _ _ (by show w1.heap.size < _; simp [HSZ.out]; omega)).trans (Below.heap_alloc _ _ _ hOl))).trans cu)
        have f4 : w4.frozen? ⟨w1.heap.size, 0, none⟩ = false := (World.grownBy.frozen_far hgrow4 ⟨w1.heap.size, 0, none⟩ (by show w1.heap.size < _; simp [HSZ.out]; omega) (HNO.out _ (by show w1.heap.size < _; omega))).trans ((World.frozen?_of_block ((Below.heap_alloc _ _ _ (by show w1.heap.size < _; simp [HSZ.out]; omega)).trans (Below.heap_alloc _ _ _ hOl))).trans fu)
        refine wpAnyH_ready (rs := [8]) (by kernel_rfl) (by simp) ?_
        refine AllReadyH.cons (o := _) rfl (fun K hK => ?_) AllReadyH.nil
        go_simp
        refine hK.out _ _ (hH3.keep (Below.heap_setCell _ _ _ _ (by show Bx ≠ w1.heap.size; omega)) (Below.heap_setCell _ _ _ _ (by show w.heap.size ≠ w1.heap.size; omega))) (fun _ => ?_)
        clear hK K
        refine wpAnyH_done (by kernel_rfl) ?_ _
        exact fields_round (Bx := Bx) (v := v) (lo := lo) (by omega) (by omega) (by omega) (by omega) (by omega) HU.out hW hlo HUL.out HN.out HV.out HR.out hBl (((Below.refl _ _).drew).alloc (Nat.le_refl _) _) hgrow4 (hat4.imp id (fun h => by rw [h]; simp [HSZ.out])) hown4
  case kdone =>
    rw [hsz]
    intro xs W hxs hI hD
    obtain ⟨u, hU⟩ := hI
    obtain ⟨A', c', hu, hcc, hlen, hrr⟩ := own_row hU.2.2.2.2.1
    rw [hxs] at hu hcc
    subst hu
    rw [hxs] at hrr
    have cO := cell_of_row W w1.heap.size 0 _ 102 (0, 0) hU.2.2.2.1
    simp at cO
    have HU := Lib.hid hU
    have HRR := Lib.hid hrr
    have HXS := Lib.hid hxs
    clear hU hrr hxs hlen
    gi_wp2
    refine ⟨by simp, .inl ⟨_, _, rfl, run_takeDeferred hD, ?_⟩⟩
    refine ⟨.slice A' n c', results_tmp (t := 2) rfl _ _ _, ?_⟩
    exact fields_done (by omega) HXS.out (by have := HMIN.out; omega) HPL.out HU.out hcc HRR.out _

end Go.Proofs.YtoimjnmhinfbkaaGreatDoor
