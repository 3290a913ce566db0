/- Proved here: lemmas and contracts (Own2) for the laws of this seat, for all values of the stated types; no further condition. -/
import Derived.Test.YtjbplncpcgfaoaaOwn
open Go Go.RowKit Go.Lib
namespace Go.Proofs.L
/-! own slices, more: a new one, its row, a cell set, a lower base; append of numbers -/
theorem own_new {w : World} {base e size n : Nat} {vs : List Value} (hb : base ≤ w.heap.size) (hl : vs.length = n * size) (hm : n ≤ maxLen) : (w.alloc (.cells vs.toArray e)).ownsRow base e size (.slice (some ⟨w.heap.size, 0, none⟩) n n) n vs :=
  ⟨hl, .inr ⟨w.heap.size, n, vs.toArray, rfl, hb, by unfold World.alloc; simp, Nat.le_refl _, hm, by simp [hl], by rw [← hl]; simp⟩⟩
theorem own_row {w : World} {base e size n g cap : Nat} {xs : List Value} (h : w.ownsRow base e size (.slice (some ⟨g, 0, none⟩) n cap) n xs) : ∃ tl : List Value, w.row? g = some (xs ++ tl).toArray ∧ base ≤ g ∧ n ≤ cap := by
  rcases h.2 with ⟨h, _⟩ | ⟨g', cap', cur, hv, hb, hg, h1, h2, h3, h4⟩
  · cases h
  · cases hv
    refine ⟨cur.toList.drop (n * size), ?_, hb, h1⟩
    rw [← h4, List.take_append_drop]
    exact row_iff.2 ⟨e, hg⟩
theorem own_setCell {w : World} {base e size n g cap : Nat} {xs : List Value} (h : w.ownsRow base e size (.slice (some ⟨g, 0, none⟩) n cap) n xs) (j : Nat) (u : Value) : (w.setCell ⟨g, j, none⟩ u).ownsRow base e size (.slice (some ⟨g, 0, none⟩) n cap) n (xs.set j u) := by
  refine ⟨by simpa using h.1, .inr ?_⟩
  rcases h.2 with ⟨h, _⟩ | ⟨g', cap', cur, hv, hb, hg, h1, h2, h3, h4⟩
  · cases h
  · cases hv
    refine ⟨g, cap, cur.setIfInBounds j u, rfl, hb, ?_, h1, h2, by simpa using h3, ?_⟩
    · unfold World.setCell
      simp only [Array.getElem?_modify, ↓reduceIte]
      rw [hg]
      simp
    · rw [← h4, Array.toList_setIfInBounds, List.take_set]
theorem own_base {w : World} {b1 b2 e size n : Nat} {v : Value} {xs : List Value} (h : w.ownsRow b1 e size v n xs) (hb : b2 ≤ b1) : w.ownsRow b2 e size v n xs := by
  refine ⟨h.1, ?_⟩
  rcases h.2 with h | ⟨g, cap, cur, hv, hg, rest⟩
  · exact .inl h
  · exact .inr ⟨g, cap, cur, hv, by omega, rest⟩
theorem natU_one (k : IntKind) (L : List Nat) : ∀ u ∈ L.map (fun x : Nat => Value.int k (x : Int)), u.oneCell' = true := by
  intro u hu
  rw [List.mem_map] at hu
  obtain ⟨x, _, rfl⟩ := hu
  rfl
/-- append of numbers onto an own slice of numbers -/
theorem app_nat {P : Program} {w : World} {ops : Array Oper} {rest : List Oper} {o : Oper} {a : Act} {Q : Exit → Act → World → Prop} (hgd : o.guard = none) (s x : Operand) (t e : TypeId) (k : IntKind) (bytes : Nat)
    (ho : o.op = .call { callee := .builtin .append, args := #[s, x], argTypes := #[t, t] }) (ht : P.underlying t = some (.slice e)) (hI : (P.info? e).map (fun i => (i.zero, i.size, i.bytes)) = some (some (.int k 0), 1, bytes)) (hb8 : bytes ≤ 8)
    (base : Nat) (v : Value) (n : Nat) (L : List Nat) (hs : a.eval s = v) (hown : w.ownsRow base e 1 v n (L.map fun x : Nat => Value.int k (x : Int)))
    (b f m c : Nat) (M : List Nat) (hx : a.eval x = .slice (some ⟨b, f, none⟩) m c) (hl : M.length = m) (hrow : ∀ (j y : Nat), M[j]? = some y → w.cell? ⟨b, f + j, none⟩ = some (.int k (y : Int))) (hn : n + m < 100000000) (hbase : base ≤ w.heap.size)
    (h : ∀ v' w', w'.ownsRow base e 1 v' (n + m) ((L ++ M).map fun x : Nat => Value.int k (x : Int)) → w.grownBy w' v.ownBlock → wpList P ops Q rest (a.put o.dst v') w') : wpList P ops Q (o :: rest) a w := by
  obtain ⟨i, hi, hz, h1, h2⟩ := info_parts hI
  refine wpList_append_own w hgd s x t ho base e i (.int k 0) 1 bytes ht hi hz h1 h2 rfl (by decide) v n _ hs hown ⟨b, f, none⟩ m c (M.map fun x : Nat => Value.int k (x : Int)) hx (by simp [hl]) (fun j u hu => ?_) (natU_one k M) (by unfold maxLen; omega) (by
    have : (n + m) * bytes ≤ 100000000 * 8 := Nat.mul_le_mul (by omega) hb8
    omega) hbase (fun v' w' q1 q2 _ => h v' w' (by rw [List.map_append]; exact q1) q2)
  rw [List.getElem?_map] at hu
  cases hq : M[j]? with
  | none => rw [hq] at hu; cases hu
  | some y =>
    rw [hq] at hu
    obtain rfl := Option.some.inj hu
    rw [show (⟨b, f, none⟩ : Addr).add j = ⟨b, f + j, none⟩ from by unfold Addr.add; split <;> simp_all]
    exact hrow j y hq
end Go.Proofs.L
