/- Proved here: lemmas and contracts (App) for the laws of this seat, for all values of the stated types; no further condition. -/
import Derived.Test.YtjbplncpcgfaoaaWin
import Derived.Test.YtjbplncpcgfaoaaPart
open Go Go.RowKit
namespace Go.Proofs.L
theorem run_append_zero {P : Program} (w : World) (t ty e : TypeId) (i : TypeInfo) (ht : P.underlying t = some (.slice e)) (hi : P.info? e = some i) (b : Option Addr) (n cap : Nat) (hn : n ≤ cap) (x : Option Addr) (c : Nat) :
    (Builtin.append_ #[t, t] ty #[.slice b n cap, .slice x 0 c]).run P w = .ok (.slice b n cap) w := by
  have hf : (Builtin.firstCells i.size 0 (.slice x 0 c)).run P w = .ok #[] w := by
    cases x <;> simp [Builtin.firstCells, loadCells, loadCellsFrom]
  cases b with
  | none => simp [Builtin.append_, run_underlying ht, sizeOf, typeInfo, hi, Builtin.lenOf, hn, hf]
  | some a => simp [Builtin.append_, run_underlying ht, sizeOf, typeInfo, hi, Builtin.lenOf, hn, hf, storeCells]
/-- append of any number of elements, none too -/
theorem run_append_any {P : Program} (w : World) (t ty e : TypeId) (i : TypeInfo) (z : Value) (size bytes : Nat) (ht : P.underlying t = some (.slice e)) (hi : P.info? e = some i) (hz : i.zero = some z)
    (hsize : i.size = size) (hby : i.bytes = bytes) (hzs : z.cells.size = size) (v : Value) (n : Nat) (xs : List Value) (hw : Win w size v n xs)
    (x : Value) (m : Nat) (news : List Value) (hx : Win w size x m news) (h1 : ∀ u ∈ news, u.oneCell' = true)
    (h63 : n + m ≤ maxLen) (hbytes : (n + m) * bytes ≤ 140737488355328) :
    ∃ v' w', (Builtin.append_ #[t, t] ty #[v, x]).run P w = .ok v' w' ∧ Win w' size v' (n + m) (xs ++ news) ∧ Chg v.ownBlock.toList w w' ∧ (v'.ownBlock = v.ownBlock ∨ v'.ownBlock = some w.heap.size) := by
  have zero : ∀ p c, x = .slice p 0 c → m = 0 → ∃ v' w', (Builtin.append_ #[t, t] ty #[v, x]).run P w = .ok v' w' ∧ Win w' size v' (n + m) (xs ++ news) ∧ Chg v.ownBlock.toList w w' ∧ (v'.ownBlock = v.ownBlock ∨ v'.ownBlock = some w.heap.size) := by
    rintro p c rfl rfl
    have hnews : news = [] := List.eq_nil_of_length_eq_zero (by simpa using hx.1)
    subst hnews
    rcases hw.2 with ⟨rfl, rfl⟩ | ⟨g, o, cap, rfl, hcap, -⟩
    · exact ⟨_, _, run_append_zero w t ty e i ht hi _ _ _ (by omega) _ _, by simpa using hw, Chg.refl _ _, .inl rfl⟩
    · exact ⟨_, _, run_append_zero w t ty e i ht hi _ _ _ hcap _ _, by simpa using hw, Chg.refl _ _, .inl rfl⟩
  rcases hx.2 with ⟨rfl, h0⟩ | ⟨g, o, cap, rfl, hcap, hg, hc, hroom⟩
  · exact zero none 0 rfl h0
  · by_cases hm : 0 < m
    · exact run_append_win w t ty e i z size bytes ht hi hz hsize hby hzs v n xs hw ⟨g, o, none⟩ m cap news hx.1 (fun j u hu => by rw [addr_add]; exact hc j u hu) h1 hm h63 hbytes
    · obtain rfl : m = 0 := by omega
      exact zero _ _ rfl rfl
theorem wpList_append_any {P : Program} {ops : Array Oper} {rest : List Oper} {o : Oper} {a : Act} {Q : Exit → Act → World → Prop} {w : World} (hgd : o.guard = none) (s x : Operand) (t : TypeId)
    (ho : o.op = .call { callee := .builtin .append, args := #[s, x], argTypes := #[t, t] }) (e : TypeId) (i : TypeInfo) (z : Value) (size bytes : Nat) (ht : P.underlying t = some (.slice e)) (hi : P.info? e = some i) (hz : i.zero = some z)
    (hsize : i.size = size) (hby : i.bytes = bytes) (hzs : z.cells.size = size) (v : Value) (n : Nat) (xs : List Value) (hs : a.eval s = v) (hw : Win w size v n xs)
    (y : Value) (m : Nat) (news : List Value) (hx : a.eval x = y) (hy : Win w size y m news) (h1 : ∀ u ∈ news, u.oneCell' = true)
    (h63 : n + m ≤ maxLen) (hbytes : (n + m) * bytes ≤ 140737488355328)
    (h : ∀ v' w', Win w' size v' (n + m) (xs ++ news) → Chg v.ownBlock.toList w w' → (v'.ownBlock = v.ownBlock ∨ v'.ownBlock = some w.heap.size) → wpList P ops Q rest (a.put o.dst v') w') : wpList P ops Q (o :: rest) a w :=
  wpList_plain hgd fun K hK => by
    obtain ⟨v', w', hr, h2, h3, h4⟩ := run_append_any (P := P) w t o.type e i z size bytes ht hi hz hsize hby hzs v n xs hw y m news hy h1 h63 hbytes
    unfold Oper.wp execOp
    simp only [ho, resolve, invoke, builtin, Sem.run_bind, Sem.run_pure, Result.andThen_ok, List.map_toArray, List.map_cons, List.map_nil, hs, hx, hr]
    exact hK _ _ (h v' w' h2 h3 h4)
theorem fold_zip_at : ∀ (L : List Value) (k : Nat) (Z : Array Value), k + L.length ≤ Z.size → ((L.zipIdx k).foldl (fun cs x => cs.setIfInBounds x.snd x.fst) Z).toList = Z.toList.take k ++ L ++ Z.toList.drop (k + L.length)
  | [], k, Z, _ => by simp
  | a :: L, k, Z, h => by
    rw [List.zipIdx_cons, List.foldl_cons, fold_zip_at L (k + 1) _ (by simp at h ⊢; omega)]
    have hk : k < Z.toList.length := by simp at h ⊢; omega
    rw [Array.toList_setIfInBounds, List.take_set, List.drop_set_of_lt (by omega)]
    have e : (Z.toList.take (k + 1)).set k a = Z.toList.take k ++ [a] := by
      rw [List.take_add_one, List.getElem?_eq_getElem hk, List.set_append_right _ _ (by simp; omega)]
      simp [show min k Z.size = k by simp at hk; omega]
    rw [e]
    simp
    congr 1
    omega
/-- cells written one by one over cells of the same number -/
theorem fold_zip (L : List Value) (Z : Array Value) (h : L.length = Z.size) : (L.zipIdx).foldl (fun cs x => cs.setIfInBounds x.snd x.fst) Z = L.toArray := by
  have := fold_zip_at L 0 Z (by omega)
  apply Array.ext'
  rw [this]
  simp [h]
/-- a new block of cells, as a slice of one element, is a window -/
theorem win_one {w : World} {sz : Nat} (cs : List Value) (t : TypeId) (hl : cs.length = sz) : Win (w.alloc (.cells cs.toArray t)) sz (.slice (some ⟨w.heap.size, 0, none⟩) 1 1) 1 cs := by
  have hr : (w.alloc (.cells cs.toArray t)).row? w.heap.size = some cs.toArray := row_alloc_at _ _ _ _ rfl
  refine ⟨by simpa using hl, .inr ⟨w.heap.size, 0, 1, rfl, Nat.le_refl _, by simp, fun j u hu => ?_, fun j hj => ?_⟩⟩
  · rw [Nat.zero_add, row_cell hr]; simpa using hu
  · rw [Nat.zero_add, row_cell hr]
    refine ⟨?_, row_free hr _⟩
    have : j < cs.length := by omega
    simp [this]
end Go.Proofs.L
