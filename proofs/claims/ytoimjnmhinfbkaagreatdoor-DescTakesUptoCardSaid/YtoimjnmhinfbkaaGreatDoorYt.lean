import Derived.Test.YtoimjnmhinfbkaaGreatDoorR
import Derived.Test.YtoimjnmhinfbkaaGreatDoorRows
import Derived.Test.YtoimjnmhinfbkaaGreatDoorProg
import Derived.Deep.Slices
import Derived.Test.YtoimjnmhinfbkaaGreatDoorD
namespace Go.Proofs.YtoimjnmhinfbkaaGreatDoor
open Go.ChangeShapes Go.WideShapes Go.RowKit Go.Lib
set_option maxRecDepth 100000

mutual
/-- as uptoBulk counts. -/
def V.mass : V → Nat
  | .mk _ _ x l n => 6 + x.size + V.masses l + (n.map fun s => s.size + 1).sum
def V.masses : List V → Nat
  | [] => 0
  | v :: vs => v.mass + V.masses vs
end

mutual
theorem V.bulk_le : ∀ v : V, v.bulk + 5 ≤ v.mass
  | .mk _ _ _ l _ => by have := V.bulks_le l; simp only [V.bulk, V.mass]; omega
theorem V.bulks_le : ∀ l : List V, V.bulks l ≤ V.masses l
  | [] => by simp [V.bulks, V.masses]
  | v :: vs => by have := v.bulk_le; have := V.bulks_le vs; simp only [V.bulks, V.masses]; omega
end

theorem V.masses_mem {l : List V} {v : V} (h : v ∈ l) : v.mass ≤ V.masses l := by
  induction l with
  | nil => cases h
  | cons x xs ih =>
    simp only [V.masses]
    rcases List.mem_cons.1 h with rfl | h
    · omega
    · have := ih h; omega

theorem V.masses_length (l : List V) : 6 * l.length ≤ V.masses l := by
  induction l with
  | nil => simp
  | cons x xs ih => have := x.bulk_le; have := x.bulk_pos; simp only [V.masses, List.length_cons]; omega

instance : Inhabited V := ⟨.mk 0 false ⟨#[]⟩ [] []⟩

theorem c27 : Tryz.prog.cellsOf 27 = 5 := by kernel_rfl
theorem c48 : Tryz.prog.cellsOf 48 = 5 := by kernel_rfl
theorem c9 : Tryz.prog.cellsOf 9 = 1 := by kernel_rfl
theorem c3 : Tryz.prog.cellsOf 3 = 1 := by kernel_rfl
theorem c4 : Tryz.prog.cellsOf 4 = 1 := by kernel_rfl
theorem c24 : Tryz.prog.cellsOf 24 = 1 := by kernel_rfl
theorem c25 : Tryz.prog.cellsOf 25 = 1 := by kernel_rfl

theorem bulk_all {H : Type} (l : List (DataW H)) : Rows.uptoBulkAll l = (l.map Rows.uptoBulk).sum := by
  induction l with
  | nil => simp [Rows.uptoBulkAll]
  | cons x r ih => simp [Rows.uptoBulkAll, ih]

theorem bulk_pos {H : Type} (d : DataW H) : 1 ≤ Rows.uptoBulk d := by
  cases d with
  | lit l => cases l <;> simp [Rows.uptoBulk]
  | nil => simp [Rows.uptoBulk]
  | ptr d => simp [Rows.uptoBulk]
  | slice elems spare => simp [Rows.uptoBulk]
  | agg parts => simp [Rows.uptoBulk]
  | iface t d => simp [Rows.uptoBulk]
  | map entries => simp [Rows.uptoBulk]
  | held h => simp [Rows.uptoBulk]

theorem masses_map (l : List V) : V.masses l = (l.map V.mass).sum := by
  induction l with
  | nil => simp [V.masses]
  | cons x r ih => simp [V.masses, ih]

theorem sum_le_map {α : Type} (l : List α) (f g : α → Nat) (h : ∀ a ∈ l, f a ≤ g a) : (l.map f).sum ≤ (l.map g).sum := by
  induction l with
  | nil => simp
  | cons x r ih =>
    have h1 := h x (by simp)
    have h2 := ih fun a ha => h a (by simp [ha])
    simp; omega

theorem mem_bulk {H : Type} {d : DataW H} {l : List (DataW H)} (h : d ∈ l) : Rows.uptoBulk d ≤ Rows.uptoBulkAll l := by
  induction l with
  | nil => cases h
  | cons x r ih =>
    simp only [Rows.uptoBulkAll]
    cases List.mem_cons.1 h with
    | inl e => subst e; omega
    | inr e => have := ih e; omega

section
variable {H : Type} {enc : TypeId × Value → H} {W : World} {spare : Nat → Bool} {held : Bool}

/-- the first element's address is a plain one. -/
theorem plain_addr {a : Addr} {n : Nat} {cs : List Value} (h : W.cells? 0 a n = some cs) (hn : 0 < n) : a.spot = none ∧ a.block < W.heap.size := by
  obtain ⟨_, hl, hc⟩ := World.cells?_some h
  have h0 := hc 0 hn
  obtain ⟨v, hv⟩ : ∃ v, W.cell? (a.add 0) = some v := ⟨cs[0]'(by omega), by rw [h0]; exact List.getElem?_eq_getElem (by omega)⟩
  exact ⟨World.cell?_spot hv, World.cells?_block h hn⟩

theorem row_of_cells {b o i n : Nat} {cs : List Value} (h : W.cells? 0 ((⟨b, o, none⟩ : Addr).add i) n = some cs) : Row W b (o + i) cs := by
  obtain ⟨_, hl, hc⟩ := World.cells?_some h
  intro k hk
  have := hc k (by omega)
  rw [Deep.add_add] at this
  have e : ((⟨b, o, none⟩ : Addr).add (i + k)) = ⟨b, o + i + k, none⟩ := by
    unfold Addr.add
    by_cases h0 : i + k = 0
    · rw [if_pos h0]; congr 1; omega
    · rw [if_neg h0]; congr 1; show o + (i + k) = _; omega
  rw [e] at this
  rw [this]
  exact List.getElem?_eq_getElem hk

theorem strs_of_trod {fuel : Nat} {cs : List Value} {x : DataW H × List MemPlace} (h : DataW.trod enc Tryz.prog W 0 spare held fuel 25 cs = some x) :
    ∃ (B : Option Addr) (ns : List ByteArray) (cb : Nat), cs = [.slice B ns.length cb] ∧ ns.length ≤ cb ∧ Strs W (fun b => b < W.heap.size) B ns ∧ (ns.map fun s => s.size + 1).sum + 1 ≤ Rows.uptoBulk x.1 := by
  rcases Deep.open_slice1 Tryz.underlying25 c9 h with ⟨rfl, rfl⟩ | ⟨a, len, cap, m, n, Vf, D, Pl, rfl, -, hl, -, hm, rfl, hx⟩
  · exact ⟨none, [], 0, rfl, Nat.le_refl _, .inl rfl, by simp [Rows.uptoBulk]⟩
  have hlm : len ≤ m := by rw [hm]; split <;> omega
  obtain ⟨f, hf⟩ := Deep.choose_lt (α := ByteArray) (n := len) (p := fun i s => Vf i = .string s ∧ D i = .lit (.string s.data.toList)) (fun i hi => by
    obtain ⟨s, h1, h2, -⟩ := DataW.trod_string Tryz.underlying9 (hx i (by omega)).2
    exact ⟨s, by simpa using h1, (Prod.mk.inj h2).1⟩)
  refine ⟨some a, (List.range len).map f, cap, by simp, by simpa using hl, ?_, ?_⟩
  · by_cases h0 : len = 0
    · subst h0; exact .inl rfl
    · obtain ⟨b, o, sp⟩ := a
      have hs := World.cell?_spot (hx 0 (by omega)).1
      have hs' : sp = none := by simpa [Addr.add] using hs
      subst hs'
      refine .inr ⟨b, o, rfl, World.block_lt_of_cell? W _ (by have := (hx 0 (by omega)).1; simpa [Addr.add] using this), fun i hi => ?_⟩
      have hi' : i < len := by simpa using hi
      have := (hx i (by omega)).1
      have e : ((⟨b, o, none⟩ : Addr).add i) = ⟨b, o + i, none⟩ := by
        unfold Addr.add
        by_cases h1 : i = 0
        · rw [if_pos h1, h1]; rfl
        · rw [if_neg h1]
      rw [e] at this
      rw [this, (hf i hi').1]
      simp
  · simp only [Rows.uptoBulk, bulk_all, List.map_map]
    have : ((List.range len).map (Rows.uptoBulk ∘ D)).sum = ((List.range len).map ((fun s : ByteArray => s.size + 1) ∘ f)).sum := by
      congr 1
      refine List.map_congr_left fun i hi => ?_
      have := (hf i (List.mem_range.1 hi)).2
      show Rows.uptoBulk (D i) = (f i).size + 1
      rw [this]
      show (f i).data.toList.length + 1 = _
      rw [Array.length_toList]
      rfl
    omega

theorem rep_of_trod : ∀ (M fuel : Nat) (cs : List Value) (x : DataW H × List MemPlace), Rows.uptoBulk x.1 ≤ M → DataW.trod enc Tryz.prog W 0 spare held fuel 27 cs = some x →
    ∃ v : V, v.Rep W (fun b => b < W.heap.size) cs ∧ v.mass ≤ Rows.uptoBulk x.1 := by
  intro M
  induction M with
  | zero => intro fuel cs x hM _; have := bulk_pos x.1; omega
  | succ M ih =>
    intro fuel cs x hM h
    obtain ⟨xs, n, rfl, rfl, hl, hlen, hf⟩ := DataW.trod_struct Tryz.underlying27 h
    rw [c27] at hl
    match cs, hl, xs, hlen with
    | [k0, k1, k2, k3, k4], _, [y0, y1, y2, y3, y4], _ =>
      have f0 : DataW.trod enc Tryz.prog W 0 spare held n 3 (([k0, k1, k2, k3, k4].drop 0).take (Tryz.prog.cellsOf 3)) = some y0 := hf 0 _ rfl
      rw [c3] at f0
      have f1 : DataW.trod enc Tryz.prog W 0 spare held n 4 (([k0, k1, k2, k3, k4].drop 1).take (Tryz.prog.cellsOf 4)) = some y1 := hf 1 _ rfl
      rw [c4] at f1
      have f2 : DataW.trod enc Tryz.prog W 0 spare held n 9 (([k0, k1, k2, k3, k4].drop 2).take (Tryz.prog.cellsOf 9)) = some y2 := hf 2 _ rfl
      rw [c9] at f2
      have f3 : DataW.trod enc Tryz.prog W 0 spare held n 24 (([k0, k1, k2, k3, k4].drop 3).take (Tryz.prog.cellsOf 24)) = some y3 := hf 3 _ rfl
      rw [c24] at f3
      have f4 : DataW.trod enc Tryz.prog W 0 spare held n 25 (([k0, k1, k2, k3, k4].drop 4).take (Tryz.prog.cellsOf 25)) = some y4 := hf 4 _ rfl
      rw [c25] at f4
      obtain ⟨k, e0, rfl, -⟩ := DataW.trod_int Tryz.underlying3 (show DataW.trod enc Tryz.prog W 0 spare held n 3 [k0] = some y0 from f0)
      obtain ⟨t, e1, rfl⟩ := DataW.trod_bool Tryz.underlying4 (show DataW.trod enc Tryz.prog W 0 spare held n 4 [k1] = some y1 from f1)
      obtain ⟨s, e2, rfl, -⟩ := DataW.trod_string Tryz.underlying9 (show DataW.trod enc Tryz.prog W 0 spare held n 9 [k2] = some y2 from f2)
      obtain ⟨B, ns, cb, e4, hcb, hS, hB⟩ := strs_of_trod (show DataW.trod enc Tryz.prog W 0 spare held n 25 [k4] = some y4 from f4)
      have h3 : DataW.trod enc Tryz.prog W 0 spare held n 24 [k3] = some y3 := f3
      injection e0 with e0
      injection e1 with e1
      injection e2 with e2
      injection e4 with e4
      subst e0 e1 e2 e4
      clear f0 f1 f2 f3 f4 hf
      simp only [List.map_cons, List.map_nil, Rows.uptoBulk, Rows.uptoBulkAll, Array.length_toList] at hM ⊢
      have key : ∃ (A : Option Addr) (l : List V) (ca : Nat), k3 = .slice A l.length ca ∧ l.length ≤ ca ∧ (l = [] ∨ ∃ b o, A = some ⟨b, o, none⟩ ∧ b < W.heap.size ∧ V.Reps W (fun b => b < W.heap.size) b o l) ∧ V.masses l + 1 ≤ Rows.uptoBulk y3.1 := by
        rcases Deep.open_slice Tryz.underlying24 h3 with ⟨e, rfl⟩ | ⟨a, len, cap, m, n', D, Pl, e, -, hl, -, hm, rfl, hx⟩
        · injection e with e
          exact ⟨none, [], 0, e, Nat.le_refl _, .inl rfl, by simp [Rows.uptoBulk, V.masses]⟩
        injection e with e
        rw [c27] at hx
        have hlm : len ≤ m := by rw [hm]; split <;> omega
        simp only [Rows.uptoBulk] at hM ⊢
        by_cases h0 : len = 0
        · subst h0
          exact ⟨some a, [], cap, e, by simp, .inl rfl, by simp [V.masses, Rows.uptoBulkAll]⟩
        obtain ⟨cs0, hc0, -⟩ := hx 0 (by omega)
        obtain ⟨hsp, hblk⟩ := plain_addr (a := a) (by simpa [Addr.add] using hc0) (by omega)
        obtain ⟨b, o, sp⟩ := a
        subst hsp
        obtain ⟨g, hg⟩ := Deep.choose_lt (α := V) (n := len) (p := fun i v => ∃ cs', Row W b (o + 5 * i) cs' ∧ v.Rep W (fun b => b < W.heap.size) cs' ∧ v.mass ≤ Rows.uptoBulk (D i)) (fun i hi => by
          obtain ⟨cs', h1, h2⟩ := hx i (by omega)
          have hin : Rows.uptoBulk (D i) ≤ Rows.uptoBulkAll ((List.range len).map D) := mem_bulk (List.mem_map.2 ⟨i, List.mem_range.2 hi, rfl⟩)
          obtain ⟨v, hv, hm'⟩ := ih _ _ _ (by show Rows.uptoBulk (D i) ≤ M; omega) h2
          exact ⟨v, cs', by rw [Nat.mul_comm]; exact row_of_cells h1, hv, hm'⟩)
        refine ⟨some ⟨b, o, none⟩, (List.range len).map g, cap, by simpa using e, by simpa using hl, .inr ⟨b, o, rfl, hblk, V.Reps.mk fun i hi => ?_⟩, ?_⟩
        · have hi' : i < len := by simpa using hi
          obtain ⟨cs', h1, h2, -⟩ := hg i hi'
          exact ⟨cs', h1, by simpa using h2⟩
        · have : V.masses ((List.range len).map g) ≤ Rows.uptoBulkAll ((List.range len).map D) := by
            rw [masses_map, bulk_all, List.map_map, List.map_map]
            refine sum_le_map _ _ _ fun i hi => ?_
            obtain ⟨cs', -, -, h3⟩ := hg i (List.mem_range.1 hi)
            exact h3
          omega
      obtain ⟨A, l, ca, rfl, hca, hL, hLm⟩ := key
      refine ⟨.mk k t s l ns, ⟨A, ca, B, cb, rfl, hca, hcb, hS, hL⟩, ?_⟩
      simp only [V.mass, ByteArray.size]
      simp only [ByteArray.size] at hB
      omega
end

end Go.Proofs.YtoimjnmhinfbkaaGreatDoor
