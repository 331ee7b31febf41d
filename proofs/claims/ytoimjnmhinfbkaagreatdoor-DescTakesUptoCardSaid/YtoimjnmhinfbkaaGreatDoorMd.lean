import Derived.Test.YtoimjnmhinfbkaaGreatDoorMc
namespace Go.Proofs.YtoimjnmhinfbkaaGreatDoor
open Go.RowKit
set_option maxRecDepth 100000

theorem info46 : (Tryz.prog.info? 46).map (fun i => (i.zero, i.size, i.bytes)) = some (some (.agg #[.int .i64 0, .bool false, .string ⟨#[]⟩, .slice none 0 0, .slice none 0 0, .string ⟨#[]⟩, .int .i64 0, .string ⟨#[]⟩]), 8, 120) := by kernel_rfl

def ditemCells (css : List Value) (p : ByteArray) : Nat → List Value
  | 0 => []
  | j + 1 => ditemCells css p j ++ ((css.drop (5 * j)).take 5 ++ [.string (itemPlace p j), .int .i64 0, .string ⟨#[]⟩])

theorem ditemCells_length (css : List Value) (p : ByteArray) (n : Nat) (h : css.length = n * 5) : ∀ j, j ≤ n → (ditemCells css p j).length = j * 8 := by
  intro j
  induction j with
  | zero => intro _; rfl
  | succ j ih =>
    intro hj
    have := ih (by omega)
    simp only [ditemCells, List.length_append, this, List.length_take, List.length_drop, List.length_cons, List.length_nil]
    omega

theorem ditemCells_at (css : List Value) (p : ByteArray) (n : Nat) (h : css.length = n * 5) : ∀ j, j ≤ n → ∀ i, i < j → ((ditemCells css p j).drop (8 * i)).take 8 = (css.drop (5 * i)).take 5 ++ [.string (itemPlace p i), .int .i64 0, .string ⟨#[]⟩] := by
  intro j
  induction j with
  | zero => intro _ i hi; omega
  | succ j ih =>
    intro hj i hi
    have hl := ditemCells_length css p n h j (by omega)
    simp only [ditemCells]
    by_cases he : i = j
    · subst he
      rw [show 8 * i = (ditemCells css p i).length from by omega, List.drop_left, List.take_of_length_le]
      simp; omega
    · rw [List.drop_append_of_le_length (by omega), List.take_append_of_le_length (by rw [List.length_drop]; omega)]
      exact ih (by omega) i (by omega)

/-- what holds at the head of the document's Items' loop. -/
def DItemsInv (w : World) (css : List Value) (p : ByteArray) (c c2 : Array Value) (v : Value) (j : Nat) (wr : World) : Prop :=
  Below w.heap.size w wr ∧ wr.heap[w.heap.size]? = some (.cells c 46 (0, 0)) ∧ wr.heap[w.heap.size + 1]? = some (.cells c2 46 (0, 0)) ∧ w.heap.size + 1 < wr.heap.size ∧ wr.ownsRow (w.heap.size + 2) 46 8 v j (ditemCells css p j)

theorem ditems_round {w : World} {css : List Value} {p : ByteArray} {c c2 : Array Value} {v v' : Value} {j : Nat} {wr w3 w4 : World} {o o2 : Obj} {cs : List Value}
    (hI : DItemsInv w css p c c2 v j wr) (hcs : (css.drop (5 * j)).take 5 = cs) (hb : Below (wr.alloc o).drew.heap.size (wr.alloc o).drew w3) (hg : (w3.alloc o2).grownBy w4 v.ownBlock)
    (hown : w4.ownsRow (w.heap.size + 2) 46 8 v' (j + 1) (ditemCells css p j ++ (cs ++ [.string (itemPlace p j), .int .i64 0, .string ⟨#[]⟩]))) : DItemsInv w css p c c2 v' (j + 1) w4 := by
  obtain ⟨i1, i2, i2', i3, i4⟩ := hI
  have hs := hb.size
  simp at hs
  have b3 : Below w.heap.size w w3 := (((i1.alloc (by omega) o).drew).trans (hb.mono (by simp; omega)))
  have h3 : w3.heap[w.heap.size]? = some (.cells c 46 (0, 0)) := (hb.block _ (by simp; omega)).trans ((Below.heap_alloc wr o _ (by omega)).trans i2)
  have h3' : w3.heap[w.heap.size + 1]? = some (.cells c2 46 (0, 0)) := (hb.block _ (by simp; omega)).trans ((Below.heap_alloc wr o _ (by omega)).trans i2')
  have hlt := World.ownsRow.lt i4
  refine ⟨(b3.alloc (by omega) o2).grown hg (by simp; omega) (fun k hk => by have := (hlt k hk).1; omega), ?_, ?_, by have := hg.size; simp at this; omega, ?_⟩
  · rw [hg.block _ (by simp; omega) (fun e => by have := (hlt _ e.symm).1; omega), Below.heap_alloc w3 o2 _ (by omega)]
    exact h3
  · rw [hg.block _ (by simp; omega) (fun e => by have := (hlt _ e.symm).1; omega), Below.heap_alloc w3 o2 _ (by omega)]
    exact h3'
  · rw [show ditemCells css p (j + 1) = ditemCells css p j ++ ((css.drop (5 * j)).take 5 ++ [.string (itemPlace p j), .int .i64 0, .string ⟨#[]⟩]) from rfl, hcs]
    exact hown

theorem itoa_nat (j : Nat) : Lib.itoa (j : Int) = Lib.decDigits j := by rw [Lib.itoa, if_neg (by omega), Int.toNat_natCast]

theorem items_doc_kind (k : Int) (t : Bool) (x : ByteArray) (A : Option Addr) (n ca : Nat) (B : Option Addr) (m cb : Nat) (p : ByteArray) (bad : Int) (wh : ByteArray) (most : Int) (w : World) (h : (k == 4) = false) :
    Calls Tryz.prog 63 #[.agg #[.int .i64 k, .bool t, .string x, .slice A n ca, .slice B m cb, .string p, .int .i64 bad, .string wh], .int .i64 most] w
      fun e w' => e = .returned (.tuple #[.slice none 0 0, docBad 11 p]) ∧ Below w.heap.size w w' := by
  have h2 : (k != 4) = true := by simpa [bne] using h
  go_enter Tryz.func63, Tryz.ntmps63
  go_wp2_with (go_at_call 103; refine (wrong_doc _ _ _).mono ?_; rintro e w1 ⟨rfl, hb1⟩; obtain ⟨hc1, hf1⟩ := bcell hb1; have hz1 : w.heap.size + 1 < w1.heap.size := (by have := hb1.size; simp at this; omega))
  refine bodyPost_ret (v := .tuple #[.slice none 0 0, docBad 11 p]) (by simp [results, docBad, Tryz.results63, go_sem, hc1, hz1]) rfl ?_
  refine ⟨rfl, ?_⟩
  (repeat (first | with_reducible refine Below.setCell ?_ (by simp) _))
  exact (((Below.refl _ _).alloc (Nat.le_refl _) _).alloc (by simp) _).trans (hb1.mono (by simp; omega))

theorem items_doc_many (t : Bool) (x : ByteArray) (A : Option Addr) (n ca : Nat) (B : Option Addr) (m cb : Nat) (p : ByteArray) (bad : Int) (wh : ByteArray) (most : Int) (w : World) (hn : n ≤ 8388608) (h : most < n) :
    Calls Tryz.prog 63 #[.agg #[.int .i64 4, .bool t, .string x, .slice A n ca, .slice B m cb, .string p, .int .i64 bad, .string wh], .int .i64 most] w
      fun e w' => e = .returned (.tuple #[.slice none 0 0, docBad 14 p]) ∧ Below w.heap.size w w' := by
  have hd : decide (most < (n : Int)) = true := by simpa using h
  clear h
  go_enter Tryz.func63, Tryz.ntmps63
  go_wp2_with (go_at_call 103; refine (wrong_doc _ _ _).mono ?_; rintro e w1 ⟨rfl, hb1⟩; obtain ⟨hc1, hf1⟩ := bcell hb1; have hz1 : w.heap.size + 1 < w1.heap.size := (by have := hb1.size; simp at this; omega))
  refine bodyPost_ret (v := .tuple #[.slice none 0 0, docBad 14 p]) (by simp [results, docBad, Tryz.results63, go_sem, hc1, hz1]) rfl ?_
  refine ⟨rfl, ?_⟩
  (repeat (first | with_reducible refine Below.setCell ?_ (by simp) _))
  exact (((Below.refl _ _).alloc (Nat.le_refl _) _).alloc (by simp) _).trans (hb1.mono (by simp; omega))

end Go.Proofs.YtoimjnmhinfbkaaGreatDoor

namespace Go.Proofs.YtoimjnmhinfbkaaGreatDoor
open Go.RowKit
set_option maxRecDepth 100000

/-- the looks that a list of the document's looks holds. -/
def DLooks (w' : World) (S : Nat → Prop) (lo : Nat) (A' : Option Addr) (l : List V) (place : Nat → ByteArray) : Prop :=
  l = [] ∨ ∃ g, A' = some ⟨g, 0, none⟩ ∧ lo ≤ g ∧ g < w'.heap.size ∧ ∀ i, ∀ hi : i < l.length, ∃ cs, Row w' g (8 * i) (cs ++ [.string (place i), .int .i64 0, .string ⟨#[]⟩]) ∧ (l[i]).Rep w' S cs

theorem items_doc_done {w : World} {S : Nat → Prop} {l : List V} {css : List Value} {p : ByteArray} {A' : Option Addr} {c' : Nat} {wr W' : World}
    (hal : Also (fun b => b ≠ w.heap.size + 1) wr W') (hW : Below w.heap.size w W') (hB : Below w.heap.size w wr) (hcl : css.length = l.length * 5) (hcc : l.length ≤ c') (hcr : ∀ i, ∀ hi : i < l.length, (l[i]).Rep w S ((css.drop (5 * i)).take 5))
    (hrr : (A' = none ∧ l.length = 0) ∨ ∃ g, A' = some ⟨g, 0, none⟩ ∧ w.heap.size + 2 ≤ g ∧ g < wr.heap.size ∧ Row wr g 0 (ditemCells css p l.length) ∧ ∀ o, wr.frozen? ⟨g, o, none⟩ = false) :
    ∃ A'' c'', Ending.returned (.tuple #[.slice A' l.length c', docBad 0 ⟨#[]⟩]) = .returned (.tuple #[.slice A'' l.length c'', docBad 0 ⟨#[]⟩]) ∧ Below w.heap.size w W' ∧ l.length ≤ c'' ∧ DLooks W' S w.heap.size A'' l (itemPlace p) := by
  have hs := hB.size
  have hs2 := hal.size
  refine ⟨_, _, rfl, hW, hcc, ?_⟩
  rcases hrr with ⟨rfl, h0⟩ | ⟨g, rfl, hg1, hg2, hg3, -⟩
  · exact .inl (List.eq_nil_of_length_eq_zero h0)
  · refine .inr ⟨g, rfl, by omega, by omega, fun i hi => ⟨_, ?_, (hcr i hi).agree fun b hb hlt => ⟨hW.block b hlt, hb⟩⟩⟩
    have hp := row_part hg3 (8 * i) 8
    rw [Nat.zero_add, ditemCells_at css p l.length hcl l.length (Nat.le_refl _) i hi] at hp
    exact hp.agree (hal.block g (by omega) hg2)

set_option maxHeartbeats 1600000 in
theorem items_doc_some (t : Bool) (x : ByteArray) (A : Option Addr) (l : List V) (ca : Nat) (B : Option Addr) (m cb : Nat) (p : ByteArray) (bad : Int) (wh : ByteArray) (most : Int) (w : World) (S : Nat → Prop)
    (hl : l = [] ∨ ∃ b o, A = some ⟨b, o, none⟩ ∧ S b ∧ V.Reps w S b o l) (hn : l.length ≤ 1000000) (hp : p.size ≤ 1073741824) (h : (l.length : Int) ≤ most) :
    Calls Tryz.prog 63 #[.agg #[.int .i64 4, .bool t, .string x, .slice A l.length ca, .slice B m cb, .string p, .int .i64 bad, .string wh], .int .i64 most] w fun e w' =>
      ∃ A' c', e = .returned (.tuple #[.slice A' l.length c', docBad 0 ⟨#[]⟩]) ∧ Below w.heap.size w w' ∧ l.length ≤ c' ∧ DLooks w' S w.heap.size A' l (itemPlace p) := by
  have hd : decide (most < (l.length : Int)) = false := by simpa using h
  have HL := Lib.hid hl
  clear hl
  obtain ⟨css, hcl, hcr, hrow⟩ := vals_flat HL.out
  obtain ⟨i0, hi0, hz0, hzz1, hzz2⟩ := info_parts info46
  have HCR := Lib.hid hcr
  have HROW := Lib.hid hrow
  clear hcr hrow HL
  go_enter Tryz.func63, Tryz.ntmps63
  go_wp2_with fail
  go_loopw [6, 30] (fun v i wr => ∃ j : Nat, j ≤ l.length ∧ i = .int .i64 j ∧ DItemsInv w css p #[.int .i64 4, .bool t, .string x, .slice A l.length ca, .slice B m cb, .string p, .int .i64 bad, .string wh] #[.int .i64 0, .bool false, .string ⟨#[]⟩, .slice none 0 0, .slice none 0 0, .string ⟨#[]⟩, .int .i64 0, .string ⟨#[]⟩] v j wr) (fun _ i _ => l.length - (intOf i).toNat)
  case atStart =>
    refine ⟨0, Nat.zero_le _, rfl, ?_, ?_, ?_, ?_, ?_⟩
    · exact (((Below.refl w.heap.size w).alloc (Nat.le_refl _) _).alloc (by simp) _).alloc (by simp; omega) _
    · rw [alloc_before (by simp; omega), alloc_before (by simp)]; exact alloc_at rfl
    · rw [alloc_before (by simp)]; exact alloc_at (by simp)
    · simp
    · exact ⟨rfl, .inr ⟨_, 0, #[], rfl, Nat.le_refl _, alloc_at (by simp), Nat.le_refl _, Nat.zero_le _, rfl, rfl⟩⟩
  case round =>
    obtain ⟨j, hj, rfl, hI⟩ := hrel
    have HINV := Lib.hid hI
    obtain ⟨i1, i2, i2', i3, i4⟩ := hI
    have HB := Lib.hid i1
    have H2 := Lib.hid i2
    have hpl := cell_of_row wr w.heap.size 5 _ 46 (0, 0) i2
    simp at hpl
    have hown := Lib.hid i4
    by_cases hlt : j < l.length
    · obtain ⟨b, o, rfl, hbl, hr⟩ := HROW.out j hlt
      obtain ⟨A3, ca3, B3, cb3, hcs, -⟩ := (HCR.out j hlt).open
      have hr2 := hr.agree (HB.out.block b hbl)
      rw [hcs] at hr2
      have e0 := hr2 0 (by simp)
      have e1 := hr2 1 (by simp)
      have e2 := hr2 2 (by simp)
      have e3 := hr2 3 (by simp)
      have e4 := hr2 4 (by simp)
      simp at e0 e1 e2 e3 e4
      have hj0 : (0 : Int) ≤ (j : Int) := Int.natCast_nonneg _
      have hj1 : (j : Int) < (l.length : Int) := by omega
      have hil := itoa_length j (by omega)
      rw [itoa_nat] at hil
      have hip : itemPlace p j = p ++ ⟨#[91]⟩ ++ ⟨(Lib.decDigits j).toArray⟩ ++ ⟨#[93]⟩ := by rw [itemPlace, itoa_nat]
      have HIP := Lib.hid hip
      have HCS := Lib.hid hcs
      have hob : (∀ q, wr.heap.size ≤ q → some q ≠ u6.ownBlock) ∧ some w.heap.size ≠ u6.ownBlock := ⟨fun q hq e => by have := (World.ownsRow.lt i4 q e.symm).2; omega, fun e => by have := (World.ownsRow.lt i4 _ e.symm).1; omega⟩
      have HOB := Lib.hid hob
      clear hr hr2 hcs hip hob i1 i2 i2' i4
      go_wp2_with fail
      have q1 : ¬ 9223372036854775807 < p.size + 1 := by omega
      have q2 : ¬ 9223372036854775807 < p.size + 1 + (Lib.decDigits j).length := by omega
      have q3 : ¬ 9223372036854775807 < p.size + 1 + (Lib.decDigits j).length + 1 := by omega
      go_region_held3 (fun w' => w'.cell? ⟨wr.heap.size, 0, none⟩ = some (.int .i64 (l[j]).kind) ∧ w'.cell? ⟨wr.heap.size, 1, none⟩ = some (.bool (l[j]).tr) ∧ w'.cell? ⟨wr.heap.size, 2, none⟩ = some (.string (l[j]).text) ∧
          w'.cell? ⟨wr.heap.size, 3, none⟩ = some (.slice A3 (l[j]).list.length ca3) ∧ w'.cell? ⟨wr.heap.size, 4, none⟩ = some (.slice B3 (l[j]).names.length cb3) ∧ w'.cell? ⟨w.heap.size, 5, none⟩ = some (.string p))
        (first | go_keep | exact ⟨k0, k1, k2, k3, k4, k5⟩ | exact ⟨grow_keep hgrow4 k0 (HOB.out.1 _ (Nat.le_refl _)), grow_keep hgrow4 k1 (HOB.out.1 _ (Nat.le_refl _)), grow_keep hgrow4 k2 (HOB.out.1 _ (Nat.le_refl _)), grow_keep hgrow4 k3 (HOB.out.1 _ (Nat.le_refl _)), grow_keep hgrow4 k4 (HOB.out.1 _ (Nat.le_refl _)), grow_keep hgrow4 k5 HOB.out.2⟩)
        ((first | (go_at_call 106; refine (figures_doc j _ (by omega)).mono ?_; rintro e w3 ⟨rfl, hb3⟩; have k5 := keep_cell hb3 hpl; have k0 := keep_new hb3 (i := 0) rfl; have k1 := keep_new hb3 (i := 1) rfl; have k2 := keep_new hb3 (i := 2) rfl; have k3 := keep_new hb3 (i := 3) rfl; have k4 := keep_new hb3 (i := 4) rfl; obtain ⟨hc3, hf3⟩ := bcell hb3) | (refine step_append_lies _ (by rfl) _ _ _ (by rfl) (w.heap.size + 2) 46 i0 _ 8 120 Tryz.underlying125 hi0 hz0 hzz1 hzz2 rfl (by omega) u6 j (ditemCells css p j) (by rfl) ((own_below ((hown.out.alloc _)) (Below.mono ⟨hb3.os, hb3.tape, hb3.output, hb3.size, hb3.block⟩ (Nat.le_refl _))).alloc _) ⟨w3.heap.size, 0, none⟩ 1 1 [.int .i64 (l[j]).kind, .bool (l[j]).tr, .string (l[j]).text, .slice A3 (l[j]).list.length ca3, .slice B3 (l[j]).names.length cb3, .string (itemPlace p j), .int .i64 0, .string ⟨#[]⟩] (by exact congrArg (fun s => Value.slice s 1 1) rfl) (by rfl) (World.news_of_block (cs := #[.int .i64 (l[j]).kind, .bool (l[j]).tr, .string (l[j]).text, .slice A3 (l[j]).list.length ca3, .slice B3 (l[j]).names.length cb3, .string (itemPlace p j), .int .i64 0, .string ⟨#[]⟩]) (t := 46) (fr := (0, 0)) (by rw [HIP.out]; exact heap_alloc_new w3 _)) (by simp [Value.oneCell']) (by omega) (by unfold maxLen; omega) (by omega) (by have := hb3.size; simp at this ⊢; omega) (w3.heap.size + 1) (by simp) ?_; intro gg cap w4 hown4 hgrow4 hat4 hlt4)))
      have HN := Lib.hid (ditems_round HINV.out HCS.out hb3 hgrow4 hown4)
      clear hown4 hgrow4 hat4 hlt4 hc3 hf3 hb3 k0 k1 k2 k3 k4 k5 hown HB H2 HINV q1 q2 q3
      go_wp2
      go_roundw
      case rel => exact ⟨j + 1, hlt, by go_num, HN.out⟩
      case measure => simp [intOf]; omega
    · obtain rfl : j = l.length := by omega
      obtain ⟨A', c', rfl, hcc, hlen, hrr⟩ := own_row hown.out
      have HRR := Lib.hid hrr
      have hx2 := fun o => cell_of_row wr (w.heap.size + 1) o _ 46 (0, 0) i2'
      have hz2 : ∀ o, wr.frozen? ⟨w.heap.size + 1, o, none⟩ = false := fun o => by simp [World.frozen?, i2']
      clear hrr i1 i2 i2' i4 hown
      go_wp2
      refine bodyPost_ret (v := .tuple #[.slice A' l.length c', docBad 0 ⟨#[]⟩]) (by simp [results, docBad, Tryz.results63, go_sem, hx2]) rfl ?_
      refine items_doc_done ?_ ?_ HB.out hcl hcc HCR.out HRR.out
      · (repeat (first | with_reducible refine Also.setCell ?_ (by simp) _))
        exact Also.refl _ _
      · (repeat (first | with_reducible refine Below.setCell ?_ (by simp) _))
        exact HB.out

end Go.Proofs.YtoimjnmhinfbkaaGreatDoor
