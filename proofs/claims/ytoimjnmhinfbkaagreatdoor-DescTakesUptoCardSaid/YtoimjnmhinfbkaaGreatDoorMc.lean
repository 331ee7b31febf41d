import Derived.Test.YtoimjnmhinfbkaaGreatDoorMb
namespace Go.Proofs.YtoimjnmhinfbkaaGreatDoor
open Go.RowKit
set_option maxRecDepth 100000

def DocRes (v : V) (w : World) (S : Nat → Prop) (e : Ending) (w' : World) : Prop :=
  ∃ cs', e = .returned (.agg cs'.toArray) ∧ v.Rep w' (fun b => (S b ∧ b < w.heap.size) ∨ (w.heap.size ≤ b ∧ b < w'.heap.size)) cs' ∧ Below w.heap.size w w'

theorem doc_done {w : World} {S : Nat → Prop} {k : Int} {t : Bool} {x : ByteArray} {l : List V} {ns : List ByteArray} {A' B : Option Addr} {c' cb : Nat} {xs : List Value} {wr W' : World}
    (hal : Also (fun b => b ≠ w.heap.size + 1) wr W') (hB : Below w.heap.size w wr) (hcc : l.length ≤ c') (hcb : ns.length ≤ cb) (hS : Strs w S B ns)
    (hrr : (A' = none ∧ l.length = 0) ∨ ∃ g, A' = some ⟨g, 0, none⟩ ∧ w.heap.size + 3 ≤ g ∧ g < wr.heap.size ∧ Row wr g 0 xs ∧ ∀ o, wr.frozen? ⟨g, o, none⟩ = false)
    (h6 : ∀ i, i < l.length → ∀ hi : i < l.length, (l[i]).Rep wr (DocS w S (.slice A' l.length c') wr) ((xs.drop (5 * i)).take 5)) :
    (V.mk k t x l ns).Rep W' (fun b => (S b ∧ b < w.heap.size) ∨ (w.heap.size ≤ b ∧ b < W'.heap.size)) [.int .i64 k, .bool t, .string x, .slice A' l.length c', .slice B ns.length cb] := by
  have hs := hB.size
  have hs2 := hal.size
  refine ⟨A', c', B, cb, rfl, hcc, hcb, hS.agree fun b hb hlt => ⟨(hal.block b (by omega) (by omega)).trans (hB.block b hlt), .inl ⟨hb, hlt⟩⟩, ?_⟩
  rcases hrr with ⟨rfl, h0⟩ | ⟨g, rfl, hg1, hg2, hg3, -⟩
  · exact .inl (List.eq_nil_of_length_eq_zero h0)
  · refine .inr ⟨g, 0, rfl, .inr ⟨by omega, by omega⟩, V.Reps.mk fun i hi => ⟨_, ?_, (h6 i hi hi).agree ?_⟩⟩
    · exact (row_part hg3 (5 * i) 5).agree (hal.block g (by omega) hg2)
    · rintro b (⟨h1, h2⟩ | ⟨h1, h2, h3⟩) hlt
      · exact ⟨hal.block b (by omega) (by omega), .inl ⟨h1, h2⟩⟩
      · exact ⟨hal.block b (by omega) h2, .inr ⟨by omega, by omega⟩⟩

theorem keep_frozen {wr w3 : World} {o o2 : Obj} (hb : Below (wr.alloc o).drew.heap.size (wr.alloc o).drew w3) {a : Addr} (hlt : a.block < wr.heap.size) (h : wr.frozen? a = false) : (w3.alloc o2).frozen? a = false := by
  have hs := hb.size
  simp at hs
  rw [← h]
  exact World.frozen?_of_block ((Below.heap_alloc w3 o2 _ (by omega)).trans ((hb.block _ (by simp; omega)).trans (Below.heap_alloc wr o _ hlt)))

set_option maxHeartbeats 1600000 in
theorem doc_step (k : Int) (t : Bool) (x : ByteArray) (l : List V) (ns : List ByteArray)
    (ih : ∀ v ∈ l, ∀ (cs : List Value) (w : World) (S : Nat → Prop), v.bulk ≤ 4194304 → v.Rep w S cs → Calls Tryz.prog 17 #[.agg cs.toArray] w (DocRes v w S))
    (A : Option Addr) (ca : Nat) (B : Option Addr) (cb : Nat) (w : World) (S : Nat → Prop) (hcb : ns.length ≤ cb)
    (hS : Strs w S B ns) (hl : l = [] ∨ ∃ b o, A = some ⟨b, o, none⟩ ∧ S b ∧ V.Reps w S b o l) (hn : ns.length ≤ 4194304) (hll : l.length ≤ 4194304) (hlb : ∀ v ∈ l, v.bulk ≤ 4194304) :
    Calls Tryz.prog 17 #[.agg #[.int .i64 k, .bool t, .string x, .slice A l.length ca, .slice B ns.length cb]] w (DocRes (.mk k t x l ns) w S) := by
  have IH := Lib.hid ih
  have HL := Lib.hid hl
  have HS := Lib.hid hS
  have HLB := Lib.hid hlb
  clear ih hl hS hlb
  obtain ⟨i0, hi0, hz0, hzz1, hzz2⟩ := info_parts info43
  go_enter Tryz.func17, Tryz.ntmps17
  go_wp2_with fail
  go_loopw [18] (fun i wr => ∃ (j : Nat) (u : Value) (xs : List Value), j ≤ l.length ∧ i = .int .i64 j ∧ DocInv w S l (.int .i64 k) (.bool t) (.string x) (.slice B ns.length cb) #[.int .i64 0, .bool false, .string ⟨#[]⟩, .slice none 0 0, .slice none 0 0] u j xs wr) (fun i _ => l.length - (intOf i).toNat)
  case atStart =>
    refine ⟨0, .slice none 0 0, [], Nat.zero_le _, rfl, ?_, ?_, ?_, ?_, World.ownsRow_nil _ _ _ _, fun i hi => absurd hi (Nat.not_lt_zero _)⟩
    · exact (((Below.refl w.heap.size w).alloc (Nat.le_refl _) _).alloc (by simp) _).alloc (by simp; omega) _
    · simp
    · exact alloc_at (by simp)
    · rw [alloc_before (by simp)]; exact alloc_at (by simp)
  case round =>
    obtain ⟨j, u, xs, hj, rfl, hI⟩ := hrel
    have HI := Lib.hid hI
    obtain ⟨i1, i2, i3, i4, i5, i6⟩ := hI
    have HB := Lib.hid i1
    have hown := Lib.hid i5
    have k3 := cell_of_row wr (w.heap.size + 2) 3 _ 43 (0, 0) i3
    have kf : wr.frozen? ⟨w.heap.size + 2, 3, none⟩ = false := by simp [World.frozen?, i3]
    simp at k3
    have hj0 : (0 : Int) ≤ (j : Int) := Int.natCast_nonneg _
    by_cases hlt : j < l.length
    · have hj1 : (j : Int) < (l.length : Int) := by omega
      obtain ⟨b, o, rfl, hSb, hr⟩ := HL.out.resolve_left (by rintro rfl; simp at hlt)
      obtain ⟨cs, hr0, hv⟩ := hr.get j hlt
      have hblt : b < w.heap.size := hr0.lt (by have := hv.len; rintro rfl; simp at this)
      have hr1 : Row wr b (o + 5 * j) cs := hr0.agree (HB.out.block b hblt)
      have HV := Lib.hid hv
      obtain ⟨A1, ca1, B1, cb1, rfl, -⟩ := hv.open
      have e0 := hr1 0 (by simp)
      have e1 := hr1 1 (by simp)
      have e2 := hr1 2 (by simp)
      have e3 := hr1 3 (by simp)
      have e4 := hr1 4 (by simp)
      simp at e0 e1 e2 e3 e4
      rw [Nat.mul_comm] at e0 e1 e2 e3 e4
      have hno : some (w.heap.size + 2) ≠ u.ownBlock := fun e => by have := (World.ownsRow.lt i5 _ e.symm).1; omega
      have HNO := Lib.hid hno
      clear hr hr0 hr1 hv i1 i3 i4 i5 i6 hno
      go_wp2_with fail
      go_region_law (first | (refine step_append_lies _ (by rfl) _ _ _ (by rfl) (w.heap.size + 3) 43 i0 _ 5 80 Tryz.underlying41 hi0 hz0 hzz1 hzz2 rfl (by omega) u j xs (by rfl) ((own_below ((hown.out.alloc _)) (Below.mono ⟨hb3.os, hb3.tape, hb3.output, hb3.size, hb3.block⟩ (Nat.le_refl _))).alloc _) ⟨w3.heap.size, 0, none⟩ 1 1 [.int .i64 (l[j]).kind, .bool (l[j]).tr, .string (l[j]).text, .slice A3 (l[j]).list.length ca3, .slice B3 (l[j]).names.length cb3] (by rfl) (by rfl) (World.news_of_block (cs := #[.int .i64 (l[j]).kind, .bool (l[j]).tr, .string (l[j]).text, .slice A3 (l[j]).list.length ca3, .slice B3 (l[j]).names.length cb3]) (t := 43) (fr := (0, 0)) (heap_alloc_new w3 _)) (by simp [Value.oneCell']) (by omega) (by unfold maxLen; omega) (by omega) (by have := hb3.size; simp at this ⊢; omega) (w3.heap.size + 1) (by simp) ?_; intro gg cap w4 hown4 hgrow4 hat4 hlt4; have g3 := grow_keep hgrow4 kk3 HNO.out; have gf3 := (World.grownBy.frozen_far hgrow4 ⟨w.heap.size + 2, 3, none⟩ (by simp; omega) HNO.out).trans (keep_frozen hb3 i2 kf)) | (go_simp; go_at_call 17; refine (IH.out _ (List.getElem_mem hlt) _ _ (fun b => S b ∧ b < w.heap.size) (HLB.out _ (List.getElem_mem hlt)) (HV.out.agree fun b hb hlt => ⟨((HB.out.alloc HB.out.size _).drew).block b hlt, hb, hlt⟩)).mono ?_; rintro e w3 ⟨cs3, rfl, hrep3, hb3⟩; have hz3 : wr.heap.size + 1 ≤ w3.heap.size := (by have := hb3.size; simp at this; omega); have kk3 := keep_cell hb3 k3; have nn1 : ¬ w.heap.size + 2 = w3.heap.size := (by omega); have nn2 : w.heap.size + 2 < w3.heap.size := (by omega); obtain ⟨A3, ca3, B3, cb3, rfl, -⟩ := hrep3.open; have HR3 := Lib.hid hrep3; clear hrep3))
      all_goals
        have HN := Lib.hid (doc_round HI.out hlt hb3 (HR3.out.agree fun b hb _ => ⟨rfl, hb.imp (fun h => h.1) (fun h => ⟨by have := h.1; simpa using this, h.2⟩)⟩) hgrow4 hown4 hat4)
        clear hb3 hgrow4 hown4 hat4 hlt4 g3 gf3 kk3 HR3
        go_wp2
        go_roundw
        case rel => exact ⟨j + 1, _, _, hlt, by go_num, HN.out⟩
        case measure => simp [intOf]; omega
    · have hj3 : ¬ (j : Int) < (l.length : Int) := by omega
      obtain ⟨A', c', rfl, hcc, hlen, hrr⟩ := own_row i5
      have HRR := Lib.hid hrr
      have hx2 := fun o => cell_of_row wr (w.heap.size + 2) o _ 43 (0, 0) i3
      have hx1 := fun o => cell_of_row wr (w.heap.size + 1) o _ 43 (0, 0) i4
      have hz1 : ∀ o, wr.frozen? ⟨w.heap.size + 1, o, none⟩ = false := fun o => by simp [World.frozen?, i4]
      have I6 := Lib.hid i6
      obtain rfl : j = l.length := by omega
      clear hrr k3 kf i1 i3 i4 i5 i6 HI hown
      go_wp2_with fail
      refine bodyPost_ret (v := .agg #[.int .i64 k, .bool t, .string x, .slice A' l.length c', .slice B ns.length cb]) (by simp [results, Tryz.results17, go_sem, hx1]) rfl ?_
      refine ⟨[.int .i64 k, .bool t, .string x, .slice A' l.length c', .slice B ns.length cb], rfl, ?_, ?_⟩
      · refine doc_done ?_ HB.out hcc hcb HS.out HRR.out I6.out
        (repeat (first | with_reducible refine Also.setCell ?_ (by simp) _))
        exact Also.refl _ _
      · (repeat (first | with_reducible refine Below.setCell ?_ (by simp) _))
        exact HB.out

/-- Document: the same value, as the document's: its lists in new memory. -/
theorem document_any (v : V) : ∀ (cs : List Value) (w : World) (S : Nat → Prop), v.bulk ≤ 4194304 → v.Rep w S cs → Calls Tryz.prog 17 #[.agg cs.toArray] w (DocRes v w S) := by
  induction v using V.ind with
  | h k t x l n ih =>
    intro cs w S hb ⟨A, ca, B, cb, hcs, h1, h2, h3, h4⟩
    subst hcs
    simp only [V.bulk] at hb
    have hn := names_length n
    have hl := V.bulks_length l
    exact doc_step k t x l n ih A ca B cb w S h2 h3 h4 (by omega) (by omega) fun v hv => by have := V.bulks_mem hv; omega

end Go.Proofs.YtoimjnmhinfbkaaGreatDoor

namespace Go.Proofs.YtoimjnmhinfbkaaGreatDoor
open Go.RowKit
set_option maxRecDepth 100000

set_option maxHeartbeats 1600000 in
theorem same_step (k : Int) (t : Bool) (x : ByteArray) (l : List V) (ns : List ByteArray)
    (ih : ∀ v ∈ l, ∀ (cs cs' : List Value) (w : World) (S S' : Nat → Prop), v.bulk ≤ 4194304 → v.Rep w S cs → v.Rep w S' cs' →
      Calls Tryz.prog 21 #[.agg cs.toArray, .agg cs'.toArray] w fun e w' => e = .returned (.bool true) ∧ Below w.heap.size w w')
    (A : Option Addr) (ca : Nat) (B : Option Addr) (cb : Nat) (A' : Option Addr) (ca' : Nat) (B' : Option Addr) (cb' : Nat) (w : World) (S S' : Nat → Prop)
    (hS : Strs w S B ns) (hS' : Strs w S' B' ns) (hl : l = [] ∨ ∃ b o, A = some ⟨b, o, none⟩ ∧ S b ∧ V.Reps w S b o l) (hl' : l = [] ∨ ∃ b o, A' = some ⟨b, o, none⟩ ∧ S' b ∧ V.Reps w S' b o l)
    (hn : ns.length ≤ 4194304) (hll : l.length ≤ 4194304) (hlb : ∀ v ∈ l, v.bulk ≤ 4194304) :
    Calls Tryz.prog 21 #[.agg #[.int .i64 k, .bool t, .string x, .slice A l.length ca, .slice B ns.length cb], .agg #[.int .i64 k, .bool t, .string x, .slice A' l.length ca', .slice B' ns.length cb']] w
      fun e w' => e = .returned (.bool true) ∧ Below w.heap.size w w' := by
  have IH := Lib.hid ih
  have HL := Lib.hid hl
  have HL' := Lib.hid hl'
  have HS := Lib.hid hS
  have HS' := Lib.hid hS'
  have HLB := Lib.hid hlb
  clear ih hl hl' hS hS' hlb
  go_enter Tryz.func21, Tryz.ntmps21
  go_wp2_with fail
  generalize hw1 : (w.alloc (.cells #[.int .i64 k, .bool t, .string x, .slice A l.length ca, .slice B ns.length cb] 43)).alloc (.cells #[.int .i64 k, .bool t, .string x, .slice A' l.length ca', .slice B' ns.length cb'] 43) = w1
  have hb1 : Below w.heap.size w w1 := by rw [← hw1]; exact ((Below.refl _ _).alloc (Nat.le_refl _) _).alloc (by simp) _
  have hz1 : w1.heap.size = w.heap.size + 2 := by rw [← hw1]; simp
  have p3 : w1.cell? ⟨w.heap.size, 3, none⟩ = some (.slice A l.length ca) := by rw [← hw1]; simp [go_sem]
  have p4 : w1.cell? ⟨w.heap.size, 4, none⟩ = some (.slice B ns.length cb) := by rw [← hw1]; simp [go_sem]
  have q3 : w1.cell? ⟨w.heap.size + 1, 3, none⟩ = some (.slice A' l.length ca') := by rw [← hw1]; simp [go_sem]
  have q4 : w1.cell? ⟨w.heap.size + 1, 4, none⟩ = some (.slice B' ns.length cb') := by rw [← hw1]; simp [go_sem]
  have HB1 := Lib.hid hb1
  have HZ1 := Lib.hid hz1
  clear hw1 hb1 hz1
  go_loopw [47] (fun i wr => ∃ j : Nat, j ≤ ns.length ∧ i = .int .i64 j ∧ Below w1.heap.size w1 wr) (fun i _ => ns.length - (intOf i).toNat)
  case atStart => exact ⟨0, Nat.zero_le _, rfl, Below.refl _ _⟩
  case round =>
    obtain ⟨j, hj, rfl, hb⟩ := hrel
    have HB := Lib.hid hb
    have hj0 : (0 : Int) ≤ (j : Int) := Int.natCast_nonneg _
    have r3 : wr.cell? ⟨w.heap.size, 3, none⟩ = some (.slice A l.length ca) := ((bcell hb).1 _ _ (by rw [HZ1.out]; omega)).trans p3
    have r4 : wr.cell? ⟨w.heap.size, 4, none⟩ = some (.slice B ns.length cb) := ((bcell hb).1 _ _ (by rw [HZ1.out]; omega)).trans p4
    have s3 : wr.cell? ⟨w.heap.size + 1, 3, none⟩ = some (.slice A' l.length ca') := ((bcell hb).1 _ _ (by rw [HZ1.out]; omega)).trans q3
    have s4 : wr.cell? ⟨w.heap.size + 1, 4, none⟩ = some (.slice B' ns.length cb') := ((bcell hb).1 _ _ (by rw [HZ1.out]; omega)).trans q4
    clear hb
    by_cases hlt : j < ns.length
    · have hj1 : (j : Int) < (ns.length : Int) := by omega
      obtain ⟨b, o, rfl, -, hbl, hc⟩ := HS.out.cell j hlt
      obtain ⟨b', o', rfl, -, hbl', hc'⟩ := HS'.out.cell j hlt
      have hcj : wr.cell? ⟨b, o + j, none⟩ = some (.string ns[j]) := (cell_of_heap ((HB.out.block b (by rw [HZ1.out]; omega)).trans (HB1.out.block b hbl))).trans (hc j hlt)
      have hcj' : wr.cell? ⟨b', o' + j, none⟩ = some (.string ns[j]) := (cell_of_heap ((HB.out.block b' (by rw [HZ1.out]; omega)).trans (HB1.out.block b' hbl'))).trans (hc' j hlt)
      clear hc hc' r3 s3 p3 p4 q3 q4
      go_wp2_with fail
      go_region
      go_wp2
      go_roundw
      case rel => exact ⟨j + 1, hlt, by go_num, HB.out.drew⟩
      case measure => simp [intOf]; omega
    · have hj2 : ¬ (j : Int) < (ns.length : Int) := by omega
      clear p4 q4 r4 s4
      go_wp2_with fail
      go_loopw [65] (fun i wq => ∃ m : Nat, m ≤ l.length ∧ i = .int .i64 m ∧ Below w1.heap.size w1 wq) (fun i _ => l.length - (intOf i).toNat)
      case atStart => exact ⟨0, Nat.zero_le _, rfl, HB.out⟩
      case round =>
        obtain ⟨m, hm, rfl, hb2⟩ := hrel
        have HB2 := Lib.hid hb2
        have hm0 : (0 : Int) ≤ (m : Int) := Int.natCast_nonneg _
        have u3 : wr.cell? ⟨w.heap.size, 3, none⟩ = some (.slice A l.length ca) := ((bcell hb2).1 _ _ (by rw [HZ1.out]; omega)).trans p3
        have v3 : wr.cell? ⟨w.heap.size + 1, 3, none⟩ = some (.slice A' l.length ca') := ((bcell hb2).1 _ _ (by rw [HZ1.out]; omega)).trans q3
        clear hb2 r3 s3 p3 q3
        by_cases hlt : m < l.length
        · have hm1 : (m : Int) < (l.length : Int) := by omega
          obtain ⟨b, o, rfl, hSb, hr⟩ := HL.out.resolve_left (by rintro rfl; simp at hlt)
          obtain ⟨b', o', rfl, hSb', hr'⟩ := HL'.out.resolve_left (by rintro rfl; simp at hlt)
          obtain ⟨cs, hr0, hv⟩ := hr.get m hlt
          obtain ⟨cs', hr0', hv'⟩ := hr'.get m hlt
          have hbl : b < w.heap.size := hr0.lt (by have := hv.len; rintro rfl; simp at this)
          have hbl' : b' < w.heap.size := hr0'.lt (by have := hv'.len; rintro rfl; simp at this)
          have keep : ∀ b, b < w.heap.size → wr.heap[b]? = w.heap[b]? := fun b hb => (HB2.out.block b (by rw [HZ1.out]; omega)).trans (HB1.out.block b hb)
          have hr1 : Row wr b (o + 5 * m) cs := hr0.agree (keep b hbl)
          have hr1' : Row wr b' (o' + 5 * m) cs' := hr0'.agree (keep b' hbl')
          have HV := Lib.hid hv
          have HV' := Lib.hid hv'
          have KEEP := Lib.hid keep
          obtain ⟨A1, ca1, B1, cb1, rfl, -⟩ := hv.open
          obtain ⟨A2, ca2, B2, cb2, rfl, -⟩ := hv'.open
          have e0 := hr1 0 (by simp)
          have e1 := hr1 1 (by simp)
          have e2 := hr1 2 (by simp)
          have e3 := hr1 3 (by simp)
          have e4 := hr1 4 (by simp)
          have f0 := hr1' 0 (by simp)
          have f1 := hr1' 1 (by simp)
          have f2 := hr1' 2 (by simp)
          have f3 := hr1' 3 (by simp)
          have f4 := hr1' 4 (by simp)
          simp at e0 e1 e2 e3 e4 f0 f1 f2 f3 f4
          rw [Nat.mul_comm] at e0 e1 e2 e3 e4 f0 f1 f2 f3 f4
          clear hr hr' hr0 hr0' hr1 hr1' hv hv' keep
          go_wp2_with fail
          go_still_tail 10, (by kernel_rfl)
          change wpList _ _ _ _ _ wr.drew
          go_wp2_with (go_at_call 21; (refine (IH.out _ (List.getElem_mem hlt) _ _ wr.drew S S' (HLB.out _ (List.getElem_mem hlt)) (V.Rep.agree (w' := wr.drew) (fun b hb hlt => ⟨KEEP.out b hlt, hb⟩) _ HV.out) (V.Rep.agree (w' := wr.drew) (fun b hb hlt => ⟨KEEP.out b hlt, hb⟩) _ HV'.out)).mono ?_); rintro e w3 ⟨rfl, hb3⟩)
          go_roundw
          case rel => exact ⟨m + 1, hlt, by go_num, HB2.out.drew.trans (hb3.mono HB2.out.size)⟩
          case measure => simp [intOf]; omega
        · have hm2 : ¬ (m : Int) < (l.length : Int) := by omega
          go_wp2
          go_ret
          exact ⟨rfl, HB1.out.trans (HB2.out.mono HB1.out.size)⟩

/-- Same: the same value twice. -/
theorem same_any (v : V) : ∀ (cs cs' : List Value) (w : World) (S S' : Nat → Prop), v.bulk ≤ 4194304 → v.Rep w S cs → v.Rep w S' cs' →
    Calls Tryz.prog 21 #[.agg cs.toArray, .agg cs'.toArray] w fun e w' => e = .returned (.bool true) ∧ Below w.heap.size w w' := by
  induction v using V.ind with
  | h k t x l n ih =>
    intro cs cs' w S S' hb ⟨A, ca, B, cb, hcs, h1, h2, h3, h4⟩ ⟨A', ca', B', cb', hcs', h1', h2', h3', h4'⟩
    subst hcs hcs'
    simp only [V.bulk] at hb
    have hn := names_length n
    have hl := V.bulks_length l
    exact same_step k t x l n ih A ca B cb A' ca' B' cb' w S S' h3 h3' h4 h4' (by omega) (by omega) fun v hv => by have := V.bulks_mem hv; omega

end Go.Proofs.YtoimjnmhinfbkaaGreatDoor

namespace Go.Proofs.YtoimjnmhinfbkaaGreatDoor
open Go.RowKit
set_option maxRecDepth 100000

theorem conv_cell (W : World) (g : Nat) (c : Int) (h : W.cell? ⟨g, 0, none⟩ = some (.int .u8 c)) : (convert 87 9 (.slice (some ⟨g, 0, none⟩) 1 1)).run Tryz.prog W = .ok (.string ⟨#[UInt8.ofNat c.toNat]⟩) W := by
  rw [run_convert_bytes_string _ 87 9 5 _ 1 1 Tryz.underlying87 Tryz.underlying5 Tryz.underlying9]
  refine (run_bytesToString (P := Tryz.prog) _ ⟨g, 0, none⟩ 1 1 [c] ?_).trans ?_
  · simp [go_sem, loadCells, loadCellsFrom, h]
  · rfl

set_option maxHeartbeats 800000 in
theorem figures_doc : ∀ (q : Nat) (w : World), q ≤ 9223372036854775807 → Calls Tryz.prog 106 #[.int .i64 q] w fun e w' => e = .returned (.string ⟨(Lib.decDigits q).toArray⟩) ∧ Below w.heap.size w w' := by
  intro q
  induction q using Nat.strongRecOn with
  | ind q ih =>
    intro w hq
    have hcv := conv_one
    have hcc := conv_cell
    have hq0 : (0 : Int) ≤ (q : Int) := Int.natCast_nonneg _
    have hq1 : (q : Int) ≤ 9223372036854775807 := by omega
    by_cases h9 : q < 10
    · have h9i : (q : Int) < 10 := by omega
      clear ih
      go_enter Tryz.func106, Tryz.ntmps106
      go_wp2
      go_ret
      refine ⟨?_, (Below.refl _ _).alloc (Nat.le_refl _) _⟩
      rw [dec_last q (by omega), ← u8_48]; rfl
    · have h9i : ¬ (q : Int) < 10 := by omega
      have IH := Lib.hid (ih (q / 10) (by omega))
      clear ih
      have hdl : (Lib.decDigits (q / 10)).length ≤ 20 := by
        have := decDigits_length 19 (q / 10) (by omega)
        omega
      go_enter Tryz.func106, Tryz.ntmps106
      have hwr : IntKind.i64.wrap ((q : Int) / 10) = ((q / 10 : Nat) : Int) := (IntWalk.i64_in _ (by omega)).trans (by omega)
      go_wp2_with fail
      go_region_with (go_at_call 106; (try rw [hwr]); refine (IH.out _ (by omega)).mono ?_; rintro e w3 ⟨rfl, hb3⟩; obtain ⟨hc3, hf3⟩ := bcell hb3)
      all_goals
        go_wp2
        go_ret
        refine ⟨?_, ?_⟩
        · rw [dec_step q (by omega), ← u8_48]
          exact congrArg (fun s => Ending.returned (.string s)) (ba_append _ _)
        · have b0 : Below w.heap.size w w.drew := (Below.refl _ _).drew
          have b1 := fun o => (b0.alloc (Nat.le_refl _) o)
          first | exact (b0.trans hb3).alloc hb3.size _ | exact (b1 _).trans (hb3.mono (Nat.le_of_lt (by simp)))

end Go.Proofs.YtoimjnmhinfbkaaGreatDoor
