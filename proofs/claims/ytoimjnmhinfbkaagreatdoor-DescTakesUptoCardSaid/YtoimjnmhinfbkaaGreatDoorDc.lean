import Derived.Test.YtoimjnmhinfbkaaGreatDoorDb
namespace Go.Proofs.YtoimjnmhinfbkaaGreatDoor
open Go.RowKit
set_option maxRecDepth 100000

theorem to_met2 {J K : Go.Act → World → Prop} {P : Go.Act → World → Prop} {Q : Exit → Go.Act → World → Prop} {a : Go.Act} {w : World} (k : ∀ a w, Met J a w → K a w) (h : ∀ a w, P a w → J a w) (hp : P a w) : Exit.then K Q Exit.normal a w := k _ _ (Met.intro (h _ _ hp))

structure PMid (w : World) (v : V) (A : Option Addr) (ca : Nat) (B : Option Addr) (cb : Nat) (p a o : ByteArray) (g : Nat) (wx : World) : Prop where
  below : Below w.heap.size w wx
  lo : w.heap.size + 1 < g
  hi : g < wx.heap.size
  box : wx.heap[w.heap.size]? = some (.cells #[.int .i64 v.kind, .bool v.tr, .string v.text, .slice A v.list.length ca, .slice B v.names.length cb, .string p] 32 (0, 0))
  res : wx.heap[w.heap.size + 1]? = some (.cells #[.string ⟨#[]⟩, .string ⟨#[]⟩, .string ⟨#[]⟩] 60 (0, 0))
  cur : wx.heap[g]? = some (.cells #[.string a, .string o, .string ⟨#[]⟩] 60 (0, 0))

theorem pmid_alloc {w w2 : World} {v : V} {A : Option Addr} {ca : Nat} {B : Option Addr} {cb : Nat} {p a o : ByteArray} (hb : Below w.heap.size w w2) (hz : w.heap.size + 1 < w2.heap.size)
    (hk : w2.heap[w.heap.size]? = some (.cells #[.int .i64 v.kind, .bool v.tr, .string v.text, .slice A v.list.length ca, .slice B v.names.length cb, .string p] 32 (0, 0)))
    (hr : w2.heap[w.heap.size + 1]? = some (.cells #[.string ⟨#[]⟩, .string ⟨#[]⟩, .string ⟨#[]⟩] 60 (0, 0))) :
    PMid w v A ca B cb p a o w2.heap.size (w2.alloc (.cells #[.string a, .string o, .string ⟨#[]⟩] 60)) :=
  ⟨hb.alloc (by omega) _, hz, by simp, (alloc_before (by omega)).trans hk, (alloc_before (by omega)).trans hr, alloc_at rfl⟩

theorem pmid_set {w w2 : World} {v : V} {A : Option Addr} {ca : Nat} {B : Option Addr} {cb : Nat} {p a o : ByteArray} {g : Nat} (hb : Below w.heap.size w w2) (hz : w.heap.size + 1 < g)
    (hk : w2.heap[w.heap.size]? = some (.cells #[.int .i64 v.kind, .bool v.tr, .string v.text, .slice A v.list.length ca, .slice B v.names.length cb, .string p] 32 (0, 0)))
    (hr : w2.heap[w.heap.size + 1]? = some (.cells #[.string ⟨#[]⟩, .string ⟨#[]⟩, .string ⟨#[]⟩] 60 (0, 0)))
    (hp : w2.heap[g]? = some (.cells #[.string ⟨#[]⟩, .string ⟨#[]⟩, .string ⟨#[]⟩] 60 (0, 0))) :
    PMid w v A ca B cb p a o g (((w2.setCell ⟨g, 0, none⟩ (.string a)).setCell ⟨g, 1, none⟩ (.string o)).setCell ⟨g, 2, none⟩ (.string ⟨#[]⟩)) := by
  have hlt : g < w2.heap.size := (Array.getElem?_eq_some_iff.1 hp).1
  refine ⟨?_, hz, by simp only [setCell_size]; exact hlt, ?_, ?_, ?_⟩
  · exact ((hb.setCell (by show _ ≤ g; omega) _).setCell (by show _ ≤ g; omega) _).setCell (by show _ ≤ g; omega) _
  · rw [Below.heap_setCell _ _ _ _ (by show _ ≠ g; omega), Below.heap_setCell _ _ _ _ (by show _ ≠ g; omega), Below.heap_setCell _ _ _ _ (by show _ ≠ g; omega)]; exact hk
  · rw [Below.heap_setCell _ _ _ _ (by show _ ≠ g; omega), Below.heap_setCell _ _ _ _ (by show _ ≠ g; omega), Below.heap_setCell _ _ _ _ (by show _ ≠ g; omega)]; exact hr
  · exact blk_set (blk_set (blk_set hp 0 _) 1 _) 2 _

set_option maxHeartbeats 4000000 in
theorem plat_good (v : V) (cs : List Value) (p : ByteArray) (w : World) (S : Nat → Prop) (hv : v.Rep w S cs) (hb : v.bulk ≤ 4194304) (hp : p.size ≤ 1000000) (a : ByteArray) (h1 : filledA v p nArch 64 = .ok a) (o : ByteArray) (h2 : filledA v p nOs 64 = .ok o) :
    Calls Tryz.prog 31 #[.agg (cs ++ [Value.string p]).toArray] w (AnsL w IsPlat (platA v p)) := by
  generalize hr : platA v p = r
  have HR := Lib.hid hr
  have HV := Lib.hid hv
  have HK := Lib.hid (filledA_kind h1)
  have HPA := Lib.hid (show platA v p = (match varA v p with | .error b => .error b | .ok x => .ok (a, o, x)) by simp only [platA, h1, h2]; cases varA v p <;> rfl)
  obtain ⟨A, ca, B, cb, rfl, -⟩ := hv.open
  have HA := Lib.hid (fun W (hW : Below w.heap.size w W) => filled_ok v [.int .i64 v.kind, .bool v.tr, .string v.text, .slice A v.list.length ca, .slice B v.names.length cb] p ⟨#[97, 114, 99, 104, 105, 116, 101, 99, 116, 117, 114, 101]⟩ 64 W S (HV.out.agree fun b hb hlt => ⟨hW.block b hlt, hb⟩) hb (by omega) (by decide) a h1)
  have HB := Lib.hid (fun W (hW : Below w.heap.size w W) => filled_ok v [.int .i64 v.kind, .bool v.tr, .string v.text, .slice A v.list.length ca, .slice B v.names.length cb] p ⟨#[111, 115]⟩ 64 W S (HV.out.agree fun b hb hlt => ⟨hW.block b hlt, hb⟩) hb (by omega) (by decide) o h2)
  clear hv h1 h2 hr
  simp only [List.cons_append, List.nil_append] at HA HB ⊢
  go_enter Tryz.func31, Tryz.ntmps31
  go_upto_region 1 with (fail)
  have K0' := alloc_before (o := .cells #[.string ⟨#[]⟩, .string ⟨#[]⟩, .string ⟨#[]⟩] 60) (show w.heap.size < (w.alloc (.cells #[.int .i64 v.kind, .bool v.tr, .string v.text, .slice A v.list.length ca, .slice B v.names.length cb, .string p] 32)).heap.size by simp)
  rw [heap_alloc_new] at K0'
  have R0' := heap_alloc_new (w.alloc (.cells #[.int .i64 v.kind, .bool v.tr, .string v.text, .slice A v.list.length ca, .slice B v.names.length cb, .string p] 32)) (.cells #[.string ⟨#[]⟩, .string ⟨#[]⟩, .string ⟨#[]⟩] 60)
  have HW0 : Below w.heap.size w ((w.alloc (.cells #[.int .i64 v.kind, .bool v.tr, .string v.text, .slice A v.list.length ca, .slice B v.names.length cb, .string p] 32)).alloc (.cells #[.string ⟨#[]⟩, .string ⟨#[]⟩, .string ⟨#[]⟩] 60)) := ((Below.refl _ _).alloc (Nat.le_refl _) _).alloc (by simp) _
  have hs0 : ((w.alloc (.cells #[.int .i64 v.kind, .bool v.tr, .string v.text, .slice A v.list.length ca, .slice B v.names.length cb, .string p] 32)).alloc (.cells #[.string ⟨#[]⟩, .string ⟨#[]⟩, .string ⟨#[]⟩] 60)).heap.size = w.heap.size + 2 := by simp
  rw [show (w.alloc (.cells #[.int .i64 v.kind, .bool v.tr, .string v.text, .slice A v.list.length ca, .slice B v.names.length cb, .string p] 32)).heap.size = w.heap.size + 1 by simp] at R0'
  generalize (w.alloc (.cells #[.int .i64 v.kind, .bool v.tr, .string v.text, .slice A v.list.length ca, .slice B v.names.length cb, .string p] 32)).alloc (.cells #[.string ⟨#[]⟩, .string ⟨#[]⟩, .string ⟨#[]⟩] 60) = W at *
  have HW := Lib.hid HW0
  have K0 := Lib.hid K0'
  have R0 := Lib.hid R0'
  have c0 := fun o => cell_of_row W w.heap.size o _ 32 (0, 0) K0.out
  have n0 : ¬ w.heap.size = W.heap.size := by omega
  have m0 : ¬ W.heap.size = w.heap.size := by omega
  have l0 : w.heap.size < W.heap.size := by omega
  have z0 : w.heap.size + 1 < W.heap.size := by omega
  clear K0' R0' HW0 hs0
  go_cut [3] (fun u3 wx => ∃ g, u3 = .pointer (some ⟨g, 0, none⟩) ∧ PMid w v A ca B cb p a o g wx)
  case first =>
    go_region_held3 (fun w' => w'.cell? ⟨w.heap.size, 0, none⟩ = some (.int .i64 v.kind) ∧ w'.cell? ⟨w.heap.size, 1, none⟩ = some (.bool v.tr) ∧ w'.cell? ⟨w.heap.size, 2, none⟩ = some (.string v.text) ∧ w'.cell? ⟨w.heap.size, 3, none⟩ = some (.slice A v.list.length ca) ∧ w'.cell? ⟨w.heap.size, 4, none⟩ = some (.slice B v.names.length cb) ∧ w'.cell? ⟨w.heap.size, 5, none⟩ = some (.string p))
      (go_keep)
      ((first | (go_at_call 73; (with_reducible refine (HA.out _ ?_).mono ?_); (· ((repeat (first | with_reducible refine Below.drew ?_ | with_reducible refine Below.alloc ?_ (by first | omega | (simp; done) | (simp; omega)) _)); exact HW.out)); rintro e w1 ⟨rfl, hb1⟩; have HB1 := Lib.hid hb1; have z1 : w.heap.size + 1 < w1.heap.size := (by have := hb1.size; first | omega | (simp at this; omega)); have K1 := Lib.hid (show w1.heap[w.heap.size]? = some (.cells #[.int .i64 v.kind, .bool v.tr, .string v.text, .slice A v.list.length ca, .slice B v.names.length cb, .string p] 32 (0, 0)) from (hb1.block _ (by first | omega | (simp; done) | (simp; omega))).trans (by first | exact K0.out | exact ((alloc_before (by first | omega | (simp; done) | (simp; omega))).trans K0.out))); have R1 := Lib.hid (show w1.heap[w.heap.size + 1]? = some (.cells #[.string ⟨#[]⟩, .string ⟨#[]⟩, .string ⟨#[]⟩] 60 (0, 0)) from (hb1.block _ (by first | omega | (simp; done) | (simp; omega))).trans (by first | exact R0.out | exact ((alloc_before (by first | omega | (simp; done) | (simp; omega))).trans R0.out))); have n1 : ¬ w.heap.size = w1.heap.size := (by omega); have m1 : ¬ w1.heap.size = w.heap.size := (by omega); have c1 := (fun o => cell_of_row w1 w.heap.size o _ 32 (0, 0) K1.out); have l1 : w.heap.size < w1.heap.size := (by omega); have q1 := hb1.size; (try simp at q1); (try (have P1 : w1.heap[W.heap.size]? = some (.cells #[.string ⟨#[]⟩, .string ⟨#[]⟩, .string ⟨#[]⟩] 60 (0, 0)) := (hb1.block _ (by first | omega | (simp; done) | (simp; omega))).trans (by first | exact alloc_at rfl | exact P1); have pc1 := (fun o => cell_of_row w1 W.heap.size o _ 60 (0, 0) P1); have pf1 : ∀ o, w1.frozen? ⟨W.heap.size, o, none⟩ = false := (fun o => by simp [World.frozen?, P1]); have pn1 : ¬ w.heap.size = W.heap.size := (by omega))); clear hb1) | (go_at_call 73; (with_reducible refine (HB.out _ ?_).mono ?_); (· ((repeat (first | with_reducible refine Below.drew ?_ | with_reducible refine Below.alloc ?_ (by first | omega | (simp; done) | (simp; omega)) _)); refine Below.trans ?_ (HB1.out.mono (by first | omega | (simp; done) | (simp; omega))); (repeat (first | with_reducible refine Below.drew ?_ | with_reducible refine Below.alloc ?_ (by first | omega | (simp; done) | (simp; omega)) _)); exact HW.out)); rintro e w2 ⟨rfl, hb2⟩; have HB2 := Lib.hid hb2; have z2 : w.heap.size + 1 < w2.heap.size := (by have := hb2.size; first | omega | (simp at this; omega)); have K2 := Lib.hid (show w2.heap[w.heap.size]? = some (.cells #[.int .i64 v.kind, .bool v.tr, .string v.text, .slice A v.list.length ca, .slice B v.names.length cb, .string p] 32 (0, 0)) from (hb2.block _ (by first | omega | (simp; done) | (simp; omega))).trans (by first | exact K1.out | exact ((alloc_before (by first | omega | (simp; done) | (simp; omega))).trans K1.out))); have R2 := Lib.hid (show w2.heap[w.heap.size + 1]? = some (.cells #[.string ⟨#[]⟩, .string ⟨#[]⟩, .string ⟨#[]⟩] 60 (0, 0)) from (hb2.block _ (by first | omega | (simp; done) | (simp; omega))).trans (by first | exact R1.out | exact ((alloc_before (by first | omega | (simp; done) | (simp; omega))).trans R1.out))); have n2 : ¬ w.heap.size = w2.heap.size := (by omega); have m2 : ¬ w2.heap.size = w.heap.size := (by omega); have c2 := (fun o => cell_of_row w2 w.heap.size o _ 32 (0, 0) K2.out); have l2 : w.heap.size < w2.heap.size := (by omega); have q2 := hb2.size; (try simp at q2); (try (have P2 : w2.heap[W.heap.size]? = some (.cells #[.string ⟨#[]⟩, .string ⟨#[]⟩, .string ⟨#[]⟩] 60 (0, 0)) := (hb2.block _ (by first | omega | (simp; done) | (simp; omega))).trans (by first | exact alloc_at rfl | exact P1); have pc2 := (fun o => cell_of_row w2 W.heap.size o _ 60 (0, 0) P2); have pf2 : ∀ o, w2.frozen? ⟨W.heap.size, o, none⟩ = false := (fun o => by simp [World.frozen?, P2]); have pn2 : ¬ w.heap.size = W.heap.size := (by omega))); (try (have P2 : w2.heap[w1.heap.size]? = some (.cells #[.string ⟨#[]⟩, .string ⟨#[]⟩, .string ⟨#[]⟩] 60 (0, 0)) := (hb2.block _ (by first | omega | (simp; done) | (simp; omega))).trans (by exact alloc_at rfl); have pc2 := (fun o => cell_of_row w2 w1.heap.size o _ 60 (0, 0) P2); have pf2 : ∀ o, w2.frozen? ⟨w1.heap.size, o, none⟩ = false := (fun o => by simp [World.frozen?, P2]))); clear hb2)))
    all_goals
      refine to_met2 (by assumption) (by assumption) ?_
      (repeat apply Exists.intro)
      refine ⟨?_, rfl⟩
      refine ⟨_, rfl, ?_⟩
      first | exact pmid_alloc (by ((repeat (first | with_reducible refine Below.drew ?_ | with_reducible refine Below.alloc ?_ (by first | omega | (simp; done) | (simp; omega)) _)); refine Below.trans ?_ (HB2.out.mono (by first | omega | (simp; done) | (simp; omega))); (repeat (first | with_reducible refine Below.drew ?_ | with_reducible refine Below.alloc ?_ (by first | omega | (simp; done) | (simp; omega)) _)); refine Below.trans ?_ (HB1.out.mono (by first | omega | (simp; done) | (simp; omega))); (repeat (first | with_reducible refine Below.drew ?_ | with_reducible refine Below.alloc ?_ (by first | omega | (simp; done) | (simp; omega)) _)); exact HW.out)) z2 K2.out R2.out | exact pmid_set (by ((repeat (first | with_reducible refine Below.drew ?_ | with_reducible refine Below.alloc ?_ (by first | omega | (simp; done) | (simp; omega)) _)); refine Below.trans ?_ (HB2.out.mono (by first | omega | (simp; done) | (simp; omega))); (repeat (first | with_reducible refine Below.drew ?_ | with_reducible refine Below.alloc ?_ (by first | omega | (simp; done) | (simp; omega)) _)); refine Below.trans ?_ (HB1.out.mono (by first | omega | (simp; done) | (simp; omega))); (repeat (first | with_reducible refine Below.drew ?_ | with_reducible refine Below.alloc ?_ (by first | omega | (simp; done) | (simp; omega)) _)); exact HW.out)) (by omega) K2.out R2.out P2
  clear HA HB HW K0 R0 c0 n0 m0 l0 z0
  obtain ⟨g, rfl, hm⟩ := hcut
  have HM := Lib.hid hm
  have c0 := fun o => cell_of_row wc w.heap.size o _ 32 (0, 0) hm.box
  have c1 := fun o => cell_of_row wc (w.heap.size + 1) o _ 60 (0, 0) hm.res
  have c2 := fun o => cell_of_row wc g o _ 60 (0, 0) hm.cur
  have f1 : ∀ o, wc.frozen? ⟨w.heap.size + 1, o, none⟩ = false := fun o => by simp [World.frozen?, hm.res]
  have f2 : ∀ o, wc.frozen? ⟨g, o, none⟩ = false := fun o => by simp [World.frozen?, hm.cur]
  have l1 := hm.lo
  have l2 := hm.hi
  have n1 : ¬ w.heap.size = g := by omega
  have n2 : ¬ w.heap.size + 1 = g := by omega
  have HMB := Lib.hid (fun W (hW : Below w.heap.size w W) => (HV.out.agree fun b hb hlt => ⟨hW.block b hlt, hb⟩ : v.Rep W S [.int .i64 v.kind, .bool v.tr, .string v.text, .slice A v.list.length ca, .slice B v.names.length cb]))
  clear hm
  cases hmy : v.maybe nVar with
  | none =>
    have hr2 : r = .ok (a, o, ⟨#[]⟩) := by rw [← HR.out, HPA.out]; simp only [varA, hmy]
    have HR2 := Lib.hid hr2
    have HY := Lib.hid hmy
    clear hr2 hmy
    go_wp2_with fail
    refine (maybe_none v [.int .i64 v.kind, .bool v.tr, .string v.text, .slice A v.list.length ca, .slice B v.names.length cb] p ⟨#[118, 97, 114, 105, 97, 110, 116]⟩ _ S (HMB.out _ HM.out.below) hb HK.out (by omega) (by decide) HY.out).mono ?_
    rintro e w3 ⟨rfl, hb3⟩
    have HB3 := Lib.hid hb3
    have e2 := fun o => cell_of_row w3 g o _ 60 (0, 0) ((hb3.block g (by omega)).trans HM.out.cur)
    have e1b := (hb3.block (w.heap.size + 1) (by omega)).trans HM.out.res
    have e1 := fun o => cell_of_row w3 (w.heap.size + 1) o _ 60 (0, 0) e1b
    have g1 : ∀ o, w3.frozen? ⟨w.heap.size + 1, o, none⟩ = false := fun o => by simp [World.frozen?, e1b]
    have m1 : w.heap.size + 1 < w3.heap.size := by have := hb3.size; omega
    have m2 : g < w3.heap.size := by have := hb3.size; omega
    clear hb3 e1b c0 c1 c2 f1 f2
    go_wp2
    refine bodyPost_ret (v := .agg #[.string a, .string o, .string ⟨#[]⟩]) (by simp [results, Tryz.results31, go_sem, e1, e2, g1, m1, m2]) rfl ?_
    refine AnsL.ok (a, o, (⟨#[]⟩ : ByteArray)) _ HR2.out rfl ?_
    (repeat (first | with_reducible refine Below.setCell ?_ (by first | omega | (simp; done) | (simp; omega)) _ | with_reducible refine Below.drew ?_ | with_reducible refine Below.alloc ?_ (by first | omega | (simp; done) | (simp; omega)) _))
    exact HM.out.below.trans (HB3.out.mono (by omega))
  | some u =>
    have hub : u.bulk ≤ 4194304 := by have := V.get_bulk (V.maybe_get hmy); omega
    have HY := Lib.hid hmy
    have HPB := Lib.hid (show platA v p = (match textA u (fieldPlace p nVar) 64 with | .error b => .error b | .ok x => .ok (a, o, x)) by rw [HPA.out]; simp only [varA, hmy])
    clear hmy
    go_wp2_with fail
    refine (maybe_some v u [.int .i64 v.kind, .bool v.tr, .string v.text, .slice A v.list.length ca, .slice B v.names.length cb] p ⟨#[118, 97, 114, 105, 97, 110, 116]⟩ _ S (HMB.out _ HM.out.below) hb HK.out (by omega) (by decide) HY.out).mono ?_
    rintro e w3 ⟨cs3, rfl, hrep3, hb3⟩
    obtain ⟨A3, ca3, B3, cb3, rfl, -⟩ := hrep3.open
    have HB3 := Lib.hid hb3
    have e2b := (hb3.block g (by omega)).trans HM.out.cur
    have e1b := (hb3.block (w.heap.size + 1) (by omega)).trans HM.out.res
    have E2 := Lib.hid e2b
    have E1 := Lib.hid e1b
    have hsz3 : wc.heap.size ≤ w3.heap.size := hb3.size
    clear hb3 e1b e2b c0 c1 c2 f1 f2 hrep3
    go_wp2_with fail
    refine (ltext_any u A3 _ ca3 B3 _ cb3 (fieldPlace p ⟨#[118, 97, 114, 105, 97, 110, 116]⟩) 64 _ hub).mono ?_
    rintro e w4 h4
    cases ht : textA u (fieldPlace p ⟨#[118, 97, 114, 105, 97, 110, 116]⟩) 64 with
    | error b =>
      rw [ht] at h4
      obtain ⟨c, q⟩ := b
      have HR2 := Lib.hid (show r = .error (c, q) by rw [← HR.out, HPB.out]; unfold nVar; simp only [ht])
      obtain ⟨gg, rfl, hth⟩ := h4
      clear ht
      go_wp2
      exact ⟨rfl, AnsL.bad c q HR2.out (Threw.of ⟨gg, rfl, hth⟩ ((HM.out.below.trans (HB3.out.mono (by omega))).alloc (by omega) _))⟩
    | ok x =>
      rw [ht] at h4
      obtain ⟨val, rfl, rfl, hb4⟩ := h4
      have HR2 := Lib.hid (show r = .ok (a, o, x) by rw [← HR.out, HPB.out]; unfold nVar; simp only [ht])
      have HB4 := Lib.hid hb4
      have hs4 : w3.heap.size + 1 ≤ w4.heap.size := by have := hb4.size; simpa using this
      have d2b := (hb4.block g (by simp; omega)).trans ((alloc_before (by omega)).trans E2.out)
      have d1b := (hb4.block (w.heap.size + 1) (by simp; omega)).trans ((alloc_before (by omega)).trans E1.out)
      have d2 := fun o => cell_of_row w4 g o _ 60 (0, 0) d2b
      have d1 := fun o => cell_of_row w4 (w.heap.size + 1) o _ 60 (0, 0) d1b
      have y1 : ∀ o, w4.frozen? ⟨w.heap.size + 1, o, none⟩ = false := fun o => by simp [World.frozen?, d1b]
      have y2 : ∀ o, w4.frozen? ⟨g, o, none⟩ = false := fun o => by simp [World.frozen?, d2b]
      have n3 : ¬ g = w.heap.size + 1 := by omega
      clear ht hb4 d1b d2b
      go_wp2
      refine bodyPost_ret (v := .agg #[.string a, .string o, .string x]) (by simp [results, Tryz.results31, go_sem, d1, d2, y1, y2, n2, n3]) rfl ?_
      refine AnsL.ok (a, o, x) _ HR2.out rfl ?_
      (repeat (first | with_reducible refine Below.setCell ?_ (by first | omega | (simp; done) | (simp; omega)) _ | with_reducible refine Below.drew ?_ | with_reducible refine Below.alloc ?_ (by first | omega | (simp; done) | (simp; omega)) _))
      exact ((HM.out.below.trans (HB3.out.mono (by omega))).alloc (by omega) _).trans (HB4.out.mono (by simp; omega))

end Go.Proofs.YtoimjnmhinfbkaaGreatDoor
