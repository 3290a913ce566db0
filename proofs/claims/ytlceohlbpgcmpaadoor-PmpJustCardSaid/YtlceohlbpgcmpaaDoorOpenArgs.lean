/- Proved here: lemmas and contracts (OpenArgs) for the laws of this seat, for all values of the stated types; no further condition. -/
import Derived.Test.YtlceohlbpgcmpaaDoorBytesWalk
import Derived.Test.YtlceohlbpgcmpaaDoorFlat
open Go Go.RowKit Go.Lib Go.ChangeShapes Go.WideShapes
namespace Go.Proofs.L
theorem flat32 : flat Tryd.prog 10 32 = some [3, 3, 30] := by kernel_rfl
theorem flat36 : flat Tryd.prog 10 36 = some [30, 30, 3] := by kernel_rfl
theorem cells32 : Tryd.prog.cellsOf 32 = 3 := by kernel_rfl
theorem cells36 : Tryd.prog.cellsOf 36 = 3 := by kernel_rfl
theorem arr3 {α : Type} (cs : Array α) (h : cs.size = 3) {a b c : α} (h0 : cs.toList[0]? = some a) (h1 : cs.toList[1]? = some b) (h2 : cs.toList[2]? = some c) : cs = #[a, b, c] := by
  obtain ⟨l⟩ := cs
  simp only [List.size_toArray] at h
  match l, h with
  | [p, q, r], _ => simp_all
theorem chg_belowD {W w : World} (h : Chg [] W w) : Below W.heap.size W w := h.below (by simp) (Nat.le_refl _)
section
variable {H : Type} {enc : TypeId × Value → H} {W : World} {base : Nat} {v : Value} {d : DataW H} {ps : List MemPlace}
theorem open_ent (hv : Value.okWide Tryd.prog W .any base 32 v) (h : DataW.Trod enc Tryd.prog W 0 (fun _ => true) true 32 v d ps) :
    ∃ (way rights : Int) (addr : Nat), v = entV way rights addr ∧ addr < 4294967296 := by
  obtain ⟨cs, rfl, hs, hl⟩ := open_aggW Tryd.underlying32 flat32 cells32 hv h
  obtain ⟨_, _, u0, h0, t0⟩ := hl 0 3 rfl
  obtain ⟨_, _, u1, h1, t1⟩ := hl 1 3 rfl
  obtain ⟨_, _, u2, h2, t2⟩ := hl 2 30 rfl
  obtain ⟨x0, rfl, -⟩ := leaf_i64 Tryd.underlying3 t0
  obtain ⟨x1, rfl, -⟩ := leaf_i64 Tryd.underlying3 t1
  obtain ⟨x2, rfl, hx⟩ := leaf_u32 Tryd.underlying30 t2
  exact ⟨x0, x1, x2, by rw [arr3 cs hs h0 h1 h2]; rfl, hx⟩
theorem choose_list {α : Type} [Inhabited α] (n : Nat) (P : Nat → α → Prop) (h : ∀ j, j < n → ∃ a, P j a) : ∃ L : List α, L.length = n ∧ ∀ (j : Nat) (a : α), L[j]? = some a → P j a := by
  have hf : ∀ j, ∃ a, j < n → P j a := fun j => by
    by_cases hj : j < n
    · obtain ⟨a, ha⟩ := h j hj; exact ⟨a, fun _ => ha⟩
    · exact ⟨default, fun h => absurd h hj⟩
  refine ⟨(List.range n).map fun j => (hf j).choose, by simp, fun j a ha => ?_⟩
  rw [List.getElem?_map] at ha
  have hj : j < n := by
    rcases Nat.lt_or_ge j n with h | h
    · exact h
    · rw [List.getElem?_eq_none (by simp; omega)] at ha; cases ha
  rw [List.getElem?_range hj] at ha
  injection ha with ha
  subst ha
  exact (hf j).choose_spec hj
theorem open_grs (hv : Value.okWide Tryd.prog W .any base 22 v) (h : DataW.Trod enc Tryd.prog W 0 (fun _ => true) true 22 v d ps) :
    ∃ (p : Option Addr) (b o n c : Nat) (G : List Gr), v = .slice p n c ∧ (0 < n → p = some ⟨b, o, none⟩) ∧ GrsAt W b o G ∧ G.length = n := by
  obtain ⟨p, b, o, n, c, rfl, hp, hc⟩ := open_cellsW Tryd.underlying22 flat36 cells36 (by decide) hv h
  obtain ⟨G, hl, hG⟩ := choose_list n (fun j g => GrAt W b (o + j * 3) g) (fun k hk => by
    obtain ⟨_, _, u0, h0, t0⟩ := hc k hk 0 30 rfl
    obtain ⟨_, _, u1, h1, t1⟩ := hc k hk 1 30 rfl
    obtain ⟨_, _, u2, h2, t2⟩ := hc k hk 2 3 rfl
    obtain ⟨x0, rfl, l0⟩ := leaf_u32 Tryd.underlying30 t0
    obtain ⟨x1, rfl, l1⟩ := leaf_u32 Tryd.underlying30 t1
    obtain ⟨x2, rfl, -⟩ := leaf_i64 Tryd.underlying3 t2
    exact ⟨⟨x0, x1, x2⟩, h0, h1, h2, l0, l1⟩)
  exact ⟨p, b, o, n, c, G, rfl, hp, hG, hl⟩
theorem open_ents (hv : Value.okWide Tryd.prog W .any base 24 v) (h : DataW.Trod enc Tryd.prog W 0 (fun _ => true) true 24 v d ps) :
    ∃ (p : Option Addr) (b o n c : Nat) (L : List Ent), v = .slice p n c ∧ (0 < n → p = some ⟨b, o, none⟩) ∧ EntsAt W b o L ∧ L.length = n := by
  obtain ⟨p, b, o, n, c, rfl, hp, hc⟩ := open_cellsW Tryd.underlying24 flat32 cells32 (by decide) hv h
  obtain ⟨L, hl, hL⟩ := choose_list n (fun j g => EntAt W b (o + j * 3) g) (fun k hk => by
    obtain ⟨_, _, u0, h0, t0⟩ := hc k hk 0 3 rfl
    obtain ⟨_, _, u1, h1, t1⟩ := hc k hk 1 3 rfl
    obtain ⟨_, _, u2, h2, t2⟩ := hc k hk 2 30 rfl
    obtain ⟨x0, rfl, -⟩ := leaf_i64 Tryd.underlying3 t0
    obtain ⟨x1, rfl, -⟩ := leaf_i64 Tryd.underlying3 t1
    obtain ⟨x2, rfl, l2⟩ := leaf_u32 Tryd.underlying30 t2
    exact ⟨⟨x0, x1, x2⟩, h0, h1, h2, l2⟩)
  exact ⟨p, b, o, n, c, L, rfl, hp, hL, hl⟩
end
end Go.Proofs.L
