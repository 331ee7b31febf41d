/- The table of powers of ten in memory; prescale. -/
import Derived.Test.YtlmogijkkhdogaaGreatDoorGa
import GoSem.PinnedTables
namespace Go.Proofs.YtlmogijkkhdogaaGreatDoor
open Go.RowKit
set_option maxRecDepth 100000

def pHi (k : Nat) : Nat := (Go.Pinned.pow10Rows.getD k (0, 0)).1
def pLo (k : Nat) : Nat := (Go.Pinned.pow10Rows.getD k (0, 0)).2
theorem rows_ok : (Go.Pinned.pow10Rows.all fun x => decide (x.1 < 18446744073709551616) && decide (x.2 < 18446744073709551616)) = true := by kernel_rfl
theorem rows_len : Go.Pinned.pow10Rows.length = 696 := by kernel_rfl
theorem row_get (k : Nat) (h : k < 696) : Go.Pinned.pow10Rows[k]? = some (pHi k, pLo k) := by
  have hk : k < Go.Pinned.pow10Rows.length := by rw [rows_len]; exact h
  unfold pHi pLo
  rw [List.getD_eq_getElem?_getD, List.getElem?_eq_getElem hk]; rfl
theorem row_ok (k : Nat) (h : k < 696) : pHi k < 18446744073709551616 ∧ pLo k < 18446744073709551616 := by
  have hm := List.mem_of_getElem? (row_get k h)
  have hx := List.all_eq_true.1 rows_ok _ hm
  simpa only [Bool.and_eq_true, decide_eq_true_eq] using hx

/-- the table of powers of ten, in memory. -/
def Tab10 (w : World) : Prop := ∀ k, k < 696 → w.cell? ⟨9, k * 2, none⟩ = some (.int .u64 (pHi k)) ∧ w.cell? ⟨9, k * 2 + 1, none⟩ = some (.int .u64 (pLo k))
theorem Tab10.below {w w' : World} (h : Tab10 w) {B : Nat} (hB : 9 < B) (hb : Below B w w') : Tab10 w' := fun k hk =>
  ⟨((bcell hb).1 _ _ hB).trans (h k hk).1, ((bcell hb).1 _ _ hB).trans (h k hk).2⟩

theorem set_block (w : World) (b o : Nat) (cs : Array Value) (t : TypeId) (v : Value) (h : w.heap[b]? = some (.cells cs t (0, 0))) : (w.setCell ⟨b, o, none⟩ v).heap[b]? = some (.cells (cs.setIfInBounds o v) t (0, 0)) := by
  simp [World.setCell, Array.getElem?_modify, h]
theorem heap_new (w : World) (o : Obj) : (w.alloc o).heap[w.heap.size]? = some o := by
  show (w.heap.push o)[w.heap.size]? = some o
  simp
theorem prescale_any (b k : Nat) (e lp : Int) (x y z : Value) (w : World) (ht : Tab10 w) (hb9 : 9 < b) (hk : k < 696) (he1 : -3000 ≤ e) (he2 : e ≤ 3000) (hl1 : -3000 ≤ lp) (hl2 : lp ≤ 3000)
    (hb : w.heap[b]? = some (.cells #[x, y, z] 246 (0, 0))) :
    Calls Tryz.prog 215 #[.pointer (some ⟨b, 0, none⟩), .int .i64 e, .int .i64 ((k : Int) - 348), .int .i64 lp] w fun r w' => r = .returned (.tuple #[]) ∧
      w'.cell? ⟨b, 0, none⟩ = some (.int .u64 (pHi k)) ∧ w'.cell? ⟨b, 1, none⟩ = some (.int .u64 (pLo k)) ∧ w'.cell? ⟨b, 2, none⟩ = some (.int .i64 (-(e + lp + 3))) ∧ Below b w w' := by
  obtain ⟨c1, c2⟩ := ht k hk
  have hk1 : (k : Int) < 696 := by omega
  have g0 : w.cell? ⟨b, 0, none⟩ = some x := by simp [World.cell?, hb]
  have g1 : w.cell? ⟨b, 1, none⟩ = some y := by simp [World.cell?, hb]
  have g2 : w.cell? ⟨b, 2, none⟩ = some z := by simp [World.cell?, hb]
  have f0 : w.frozen? ⟨b, 0, none⟩ = false := by simp [World.frozen?, hb]
  have f1 : w.frozen? ⟨b, 1, none⟩ = false := by simp [World.frozen?, hb]
  have f2 : w.frozen? ⟨b, 2, none⟩ = false := by simp [World.frozen?, hb]
  have hne : ¬ b = 9 := by omega
  have hne2 : ¬ 9 = b := by omega
  have HB := Lib.hid hb
  clear hb
  go_enter Tryz.func215, Tryz.ntmps215
  go_wp2
  go_end0
  refine ⟨rfl, ?_⟩
  have hB : w.heap[b]? = some (.cells #[x, y, z] 246 (0, 0)) := HB.out
  have e0 := set_block w b 0 #[x, y, z] 246 (.int .u64 (pHi k)) hB
  have e1 := set_block (w.setCell ⟨b, 0, none⟩ (.int .u64 (pHi k))) b 1 _ 246 (.int .u64 (pLo k)) e0
  have e2 := set_block ((w.setCell ⟨b, 0, none⟩ (.int .u64 (pHi k))).setCell ⟨b, 1, none⟩ (.int .u64 (pLo k))) b 2 _ 246 (.int .i64 (-(e + lp + 3))) e1
  refine ⟨?_, ?_, ?_, Below.setCell (Below.setCell (Below.setCell (Below.refl b w) (Nat.le_refl b) _) (Nat.le_refl b) _) (Nat.le_refl b) _⟩
  all_goals (unfold World.cell?; rw [e2]; rfl)

/-- what the first part of shortFloat finds: the middle's neighbours, the scale. -/
structure Sides (m : Nat) (e : Int) (P OD : Int) (MN MX : Nat) : Prop where
  mn : MN < 18446744073709551616
  mx : MX < 18446744073709551616
  p1 : -340 ≤ P
  p2 : P ≤ 340
  s1 : 0 ≤ -(e + P * 108853 / 32768 + 3)
  s2 : -(e + P * 108853 / 32768 + 3) < 64
  way : (m = 9223372036854775808 ∧ -1085 < e ∧ P = -(((e + 11) * 631305 - 261663) / 2097152) ∧ MN = 9223372036854775296 ∧ MX = 9223372036854776832 ∧ OD = 0) ∨
    (¬ (m = 9223372036854775808 ∧ -1085 < e) ∧ -1085 ≤ e ∧ P = -((e + 11) * 78913 / 262144) ∧ IntKind.u64.wrap ((m : Int) - 1024) = MN ∧ IntKind.u64.wrap ((m : Int) + 1024) = MX ∧ OD = bits .and .i64 ((m : Int) / 2048) 1) ∨
    (e < -1085 ∧ P = 324 ∧ ∃ k : Nat, e = -1085 - (k : Int) ∧ IntKind.u64.wrap ((m : Int) - IntKind.u64.wrap (2 ^ ((11 + (-1085 - (-1085 - (k : Int)))).toNat - 1))) = MN ∧ IntKind.u64.wrap ((m : Int) + IntKind.u64.wrap (2 ^ ((11 + (-1085 - (-1085 - (k : Int)))).toNat - 1))) = MX ∧
      OD = bits .and .i64 (wrap64 ((m : Int) / 2 ^ (11 + (-1085 - (-1085 - (k : Int)))).toNat)) 1)
theorem sides_ex (m : Nat) (e : Int) (h1 : -1137 ≤ e) (h2 : e ≤ 960) : ∃ P OD MN MX, Sides m e P OD MN MX := by
  by_cases c1 : m = 9223372036854775808 ∧ -1085 < e
  · refine ⟨-(((e + 11) * 631305 - 261663) / 2097152), 0, 9223372036854775296, 9223372036854776832, ⟨by decide, by decide, by omega, by omega, by omega, by omega, Or.inl ⟨c1.1, c1.2, rfl, rfl, rfl, rfl⟩⟩⟩
  · by_cases c2 : -1085 ≤ e
    · obtain ⟨a, ha, ea⟩ := wrapN ((m : Int) - 1024)
      obtain ⟨b, hb, eb⟩ := wrapN ((m : Int) + 1024)
      exact ⟨-((e + 11) * 78913 / 262144), _, a, b, ⟨ha, hb, by omega, by omega, by omega, by omega, Or.inr (Or.inl ⟨c1, c2, rfl, ea, eb, rfl⟩)⟩⟩
    · obtain ⟨k, hk⟩ : ∃ k : Nat, e = -1085 - (k : Int) := ⟨(-1085 - e).toNat, by omega⟩
      obtain ⟨a, ha, ea⟩ := wrapN ((m : Int) - IntKind.u64.wrap (2 ^ ((11 + (-1085 - (-1085 - (k : Int)))).toNat - 1)))
      obtain ⟨b, hb, eb⟩ := wrapN ((m : Int) + IntKind.u64.wrap (2 ^ ((11 + (-1085 - (-1085 - (k : Int)))).toNat - 1)))
      exact ⟨324, _, a, b, ⟨ha, hb, by omega, by omega, by omega, by omega, Or.inr (Or.inr ⟨by omega, rfl, k, hk, ea, eb, rfl⟩)⟩⟩

theorem short_ex (m : Nat) (e : Int) (hm : m < 18446744073709551616) (h1 : -1137 ≤ e) (h2 : e ≤ 960) :
    ∃ (d : Nat) (p : Int), d < 4611686018427387904 ∧ -400 ≤ p ∧ p ≤ 400 ∧ ∀ w, Tab10 w → 9 < w.heap.size → Calls Tryz.prog 175 #[.int .u64 m, .int .i64 e] w fun r w' => r = .returned (.tuple #[.int .u64 d, .int .i64 p]) ∧ Below w.heap.size w w' := by
  obtain ⟨P, OD, MN, MX, ⟨hmn, hmx, p1, p2, s1, s2, way⟩⟩ := sides_ex m e h1 h2
  obtain ⟨k, hk⟩ : ∃ k : Nat, P = (k : Int) - 348 := ⟨(P + 348).toNat, by omega⟩
  obtain ⟨s, hs⟩ : ∃ s : Nat, -(e + P * 108853 / 32768 + 3) = (s : Int) := ⟨(-(e + P * 108853 / 32768 + 3)).toNat, by omega⟩
  have hk2 : k < 696 := by omega
  have hs2 : s < 64 := by omega
  obtain ⟨b1, b2⟩ := row_ok k hk2
  obtain ⟨r1, hr1, H1⟩ := uscale_ex MN (pHi k) (pLo k) s hmn b1 b2 hs2
  obtain ⟨r2, hr2, H2⟩ := uscale_ex MX (pHi k) (pLo k) s hmx b1 b2 hs2
  obtain ⟨r3, hr3, H3⟩ := uscale_ex m (pHi k) (pLo k) s hm b1 b2 hs2
  obtain ⟨n1, hn1, N1⟩ := nudge_ex r1 OD
  obtain ⟨n2, hn2, N2⟩ := nudge_ex r2 (wrap64 (-OD))
  obtain ⟨dmin, hd1, D1⟩ := ceil_ex n1
  obtain ⟨dmax, hd2, D2⟩ := floor_ex n2
  obtain ⟨dr, hd3, D3⟩ := round_ex r3
  have WAY := Lib.hid way
  have HK := Lib.hid hk
  have HS := Lib.hid hs
  clear way
  refine ⟨if dmin ≤ dmax / 10 * 10 then dmax / 10 else if dmin < dmax then dr else dmin, if dmin ≤ dmax / 10 * 10 then -(P - 1) else -P, by split <;> (try split) <;> omega, by split <;> omega, by split <;> omega, fun w ht hw => ?_⟩
  have HT := Lib.hid ht
  have h1' := Lib.hid H1
  have h2' := Lib.hid H2
  have h3' := Lib.hid H3
  have n1' := Lib.hid N1
  have n2' := Lib.hid N2
  have d1' := Lib.hid D1
  have d2' := Lib.hid D2
  have d3' := Lib.hid D3
  clear H1 H2 H3 N1 N2 D1 D2 D3 ht
  go_enter Tryz.func175, Tryz.ntmps175
  obtain ⟨cb, hcb⟩ : ∃ c : Bool, c = decide (m = 9223372036854775808 ∧ -1085 < e) := ⟨_, rfl⟩
  have HCB := Lib.hid hcb
  clear hcb
  go_upto_region 12 with fail
  go_cut [28] from 22 to 27 (fun v wx => v = .bool cb ∧ w = wx)
  case first =>
    by_cases c1 : m = 9223372036854775808
    · by_cases c2 : -1085 < e
      · have hv : cb = true := by rw [HCB.out]; exact decide_eq_true ⟨c1, c2⟩
        subst c1
        clear HCB
        subst hv
        go_wp2_with fail
        go_meet
        exact ⟨rfl, rfl⟩
      · have hv : cb = false := by rw [HCB.out]; exact decide_eq_false fun h => c2 h.2
        have c2' : e ≤ -1085 := by omega
        subst c1
        clear HCB
        subst hv
        go_wp2_with fail
        go_meet
        exact ⟨rfl, rfl⟩
    · have hv : cb = false := by rw [HCB.out]; exact decide_eq_false fun h => c1 h.1
      have c2' : ((m : Int) == 9223372036854775808) = false := by simp; omega
      clear HCB
      subst hv
      go_wp2_with fail
      go_meet
      exact ⟨rfl, rfl⟩
  case rest =>
    obtain ⟨rfl, rfl⟩ := hcut
    go_upto_if 28 with fail
    go_cut [5, 8, 9, 10, 11] from 29 to 96 (fun a b c d _z wx => a = .int .i64 P ∧ b = .int .u64 MN ∧ c = .int .u64 MX ∧ d = .int .i64 OD ∧ w = wx)
    case first =>
      rcases WAY.out with ⟨w1, w2, w3, w4, w5, w6⟩ | ⟨w1, w2, w3, w4, w5, w6⟩ | ⟨w1, w3, kk, w2, w4, w5, w6⟩
      · have hv : cb = true := by rw [HCB.out]; exact decide_eq_true ⟨w1, w2⟩
        have o1 : bits .and .i64 4503599627370496 1 = 0 := by decide
        have W3 := Lib.hid w3
        clear HCB w3 WAY HK HS
        subst w1 hv w4 w5 w6
        go_wp2_with (go_at_call 214; refine (skewed_any _ (by omega) (by omega) _).mono ?_; rintro e w' ⟨rfl, rfl⟩)
        go_meet
        exact ⟨by rw [W3.out], rfl, rfl, rfl, rfl⟩
      · have hv : cb = false := by rw [HCB.out]; exact decide_eq_false w1
        have W3 := Lib.hid w3
        have W6 := Lib.hid w6
        clear HCB w3 w6 w1 WAY HK HS
        subst hv
        go_wp2_with (go_at_call 159; refine (log10_any _ (by omega) (by omega) _).mono ?_; rintro e w' ⟨rfl, rfl⟩)
        go_meet
        exact ⟨by rw [W3.out], rfl, rfl, by rw [W6.out], rfl⟩
      · have hv : cb = false := by rw [HCB.out]; exact decide_eq_false fun h => by omega
        have W6 := Lib.hid w6
        have W3 := Lib.hid w3
        have o1 : -((-1085 - (kk : Int) + (11 + (-1085 - (-1085 - (kk : Int))))) * 78913 / 262144) = 324 := by omega
        clear HCB w6 w3 WAY HK HS
        subst hv w2
        go_wp2_with (go_at_call 159; refine (log10_any _ (by omega) (by omega) _).mono ?_; rintro e w' ⟨rfl, rfl⟩)
        go_meet
        exact ⟨by rw [W3.out], rfl, rfl, by rw [W6.out], rfl⟩
    case rest =>
      obtain ⟨rfl, rfl, rfl, rfl, rfl⟩ := hcut
      clear HCB WAY
      have k1 := HK.out
      have k2 := HS.out
      have hs1 : (s : Int) < 64 := by omega
      have k3 : -(e + P * 108853 / 32768 + 3) = (s : Int) := k2
      subst k1
      go_upto_region 29 with (first | (go_at_call 216; refine (log2_any _ (by omega) (by omega) _).mono ?_; rintro e w' ⟨rfl, rfl⟩) | (go_at_call 215; refine (prescale_any w.heap.size k e _ _ _ _ (w.alloc (.cells #[.int .u64 0, .int .u64 0, .int .i64 0] 246)) (HT.out.below hw ((Below.refl _ _).alloc (Nat.le_refl _) _)) hw hk2 (by omega) (by omega) (by omega) (by omega) (heap_new w _)).mono ?_; rw [k3]; rintro r w2 ⟨rfl, c0, c1, c2, hb2⟩))
      have hlt2 : w.heap.size < w2.heap.size := by have h := hb2.size; simp at h; omega
      have bel2 : Below w.heap.size w w2 := ((Below.refl _ _).alloc (Nat.le_refl _) _).trans hb2
      clear hb2
      have c0' := Lib.hid c0
      have c1' := Lib.hid c1
      have c2' := Lib.hid c2
      clear c0 c1 c2 k2 k3 hs1 HS
      by_cases q1 : dmin ≤ dmax / 10 * 10
      · have q1' : (dmin : Int) ≤ (dmax : Int) / 10 * 10 := by omega
        have q3 : (dmax : Int) / 10 * 10 ≤ 4611686018427387904 := by omega
        go_wp2_with (first
          | (go_at_call 217; with_reducible refine (h1'.out _ _ c0'.out c1'.out c2'.out).mono ?_; rintro r w3 ⟨rfl, b3⟩; have hlt3 : w.heap.size < w3.heap.size := (Nat.lt_of_lt_of_le hlt2 b3.size); have d0' := Lib.hid (((bcell b3).1 _ _ hlt2).trans c0'.out); have d1'' := Lib.hid (((bcell b3).1 _ _ hlt2).trans c1'.out); have d2'' := Lib.hid (((bcell b3).1 _ _ hlt2).trans c2'.out))
          | (go_at_call 217; with_reducible refine (h2'.out _ _ d0'.out d1''.out d2''.out).mono ?_; rintro r w4 ⟨rfl, b4⟩; have hlt4 : w.heap.size < w4.heap.size := (Nat.lt_of_lt_of_le hlt3 b4.size); have e0' := Lib.hid (((bcell b4).1 _ _ hlt3).trans d0'.out); have e1' := Lib.hid (((bcell b4).1 _ _ hlt3).trans d1''.out); have e2' := Lib.hid (((bcell b4).1 _ _ hlt3).trans d2''.out))
          | (go_at_call 217; with_reducible refine (h3'.out _ _ e0'.out e1'.out e2'.out).mono ?_; rintro r w5 ⟨rfl, b5⟩)
          | (go_at_call 218; with_reducible refine (n1'.out _).mono ?_; rintro e w' ⟨rfl, rfl⟩)
          | (go_at_call 218; with_reducible refine (n2'.out _).mono ?_; rintro e w' ⟨rfl, rfl⟩)
          | (go_at_call 219; with_reducible refine (d1'.out _).mono ?_; rintro e w' ⟨rfl, rfl⟩)
          | (go_at_call 220; with_reducible refine (d2'.out _).mono ?_; rintro e w' ⟨rfl, rfl⟩)
          | (go_at_call 221; with_reducible refine (d3'.out _).mono ?_; rintro e w' ⟨rfl, rfl⟩))
        refine bodyPost_ret (v := .tuple #[.int .u64 (dmax / 10 : Nat), .int .i64 (-((k : Int) - 348 - 1))]) (by simp [results, Tryz.results175, go_sem]) rfl ?_
        exact ⟨rfl, bel2.trans ((b3.mono (Nat.le_of_lt hlt2)).trans (b4.mono (Nat.le_of_lt hlt3)))⟩
      · have q1' : (dmax : Int) / 10 * 10 < (dmin : Int) := by omega
        have q3 : (dmax : Int) / 10 * 10 ≤ 4611686018427387904 := by omega
        by_cases q2 : dmin < dmax
        · have q2' : (dmin : Int) < (dmax : Int) := by omega
          go_wp2_with (first
            | (go_at_call 217; with_reducible refine (h1'.out _ _ c0'.out c1'.out c2'.out).mono ?_; rintro r w3 ⟨rfl, b3⟩; have hlt3 : w.heap.size < w3.heap.size := (Nat.lt_of_lt_of_le hlt2 b3.size); have d0' := Lib.hid (((bcell b3).1 _ _ hlt2).trans c0'.out); have d1'' := Lib.hid (((bcell b3).1 _ _ hlt2).trans c1'.out); have d2'' := Lib.hid (((bcell b3).1 _ _ hlt2).trans c2'.out))
            | (go_at_call 217; with_reducible refine (h2'.out _ _ d0'.out d1''.out d2''.out).mono ?_; rintro r w4 ⟨rfl, b4⟩; have hlt4 : w.heap.size < w4.heap.size := (Nat.lt_of_lt_of_le hlt3 b4.size); have e0' := Lib.hid (((bcell b4).1 _ _ hlt3).trans d0'.out); have e1' := Lib.hid (((bcell b4).1 _ _ hlt3).trans d1''.out); have e2' := Lib.hid (((bcell b4).1 _ _ hlt3).trans d2''.out))
            | (go_at_call 217; with_reducible refine (h3'.out _ _ e0'.out e1'.out e2'.out).mono ?_; rintro r w5 ⟨rfl, b5⟩)
            | (go_at_call 218; with_reducible refine (n1'.out _).mono ?_; rintro e w' ⟨rfl, rfl⟩)
            | (go_at_call 218; with_reducible refine (n2'.out _).mono ?_; rintro e w' ⟨rfl, rfl⟩)
            | (go_at_call 219; with_reducible refine (d1'.out _).mono ?_; rintro e w' ⟨rfl, rfl⟩)
            | (go_at_call 220; with_reducible refine (d2'.out _).mono ?_; rintro e w' ⟨rfl, rfl⟩)
            | (go_at_call 221; with_reducible refine (d3'.out _).mono ?_; rintro e w' ⟨rfl, rfl⟩))
          refine bodyPost_ret (v := .tuple #[.int .u64 (dr : Nat), .int .i64 (-((k : Int) - 348))]) (by simp [results, Tryz.results175, go_sem]) rfl ?_
          exact ⟨rfl, bel2.trans ((b3.mono (Nat.le_of_lt hlt2)).trans ((b4.mono (Nat.le_of_lt hlt3)).trans (b5.mono (Nat.le_of_lt hlt4))))⟩
        · have q2' : (dmax : Int) ≤ (dmin : Int) := by omega
          go_wp2_with (first
            | (go_at_call 217; with_reducible refine (h1'.out _ _ c0'.out c1'.out c2'.out).mono ?_; rintro r w3 ⟨rfl, b3⟩; have hlt3 : w.heap.size < w3.heap.size := (Nat.lt_of_lt_of_le hlt2 b3.size); have d0' := Lib.hid (((bcell b3).1 _ _ hlt2).trans c0'.out); have d1'' := Lib.hid (((bcell b3).1 _ _ hlt2).trans c1'.out); have d2'' := Lib.hid (((bcell b3).1 _ _ hlt2).trans c2'.out))
            | (go_at_call 217; with_reducible refine (h2'.out _ _ d0'.out d1''.out d2''.out).mono ?_; rintro r w4 ⟨rfl, b4⟩; have hlt4 : w.heap.size < w4.heap.size := (Nat.lt_of_lt_of_le hlt3 b4.size); have e0' := Lib.hid (((bcell b4).1 _ _ hlt3).trans d0'.out); have e1' := Lib.hid (((bcell b4).1 _ _ hlt3).trans d1''.out); have e2' := Lib.hid (((bcell b4).1 _ _ hlt3).trans d2''.out))
            | (go_at_call 217; with_reducible refine (h3'.out _ _ e0'.out e1'.out e2'.out).mono ?_; rintro r w5 ⟨rfl, b5⟩)
            | (go_at_call 218; with_reducible refine (n1'.out _).mono ?_; rintro e w' ⟨rfl, rfl⟩)
            | (go_at_call 218; with_reducible refine (n2'.out _).mono ?_; rintro e w' ⟨rfl, rfl⟩)
            | (go_at_call 219; with_reducible refine (d1'.out _).mono ?_; rintro e w' ⟨rfl, rfl⟩)
            | (go_at_call 220; with_reducible refine (d2'.out _).mono ?_; rintro e w' ⟨rfl, rfl⟩)
            | (go_at_call 221; with_reducible refine (d3'.out _).mono ?_; rintro e w' ⟨rfl, rfl⟩))
          refine bodyPost_ret (v := .tuple #[.int .u64 (dmin : Nat), .int .i64 (-((k : Int) - 348))]) (by simp [results, Tryz.results175, go_sem]) rfl ?_
          exact ⟨rfl, bel2.trans ((b3.mono (Nat.le_of_lt hlt2)).trans (b4.mono (Nat.le_of_lt hlt3)))⟩
end Go.Proofs.YtlmogijkkhdogaaGreatDoor
