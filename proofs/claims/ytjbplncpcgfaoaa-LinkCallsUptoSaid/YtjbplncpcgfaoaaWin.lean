/- Proved here: lemmas and contracts (Win) for the laws of this seat, for all values of the stated types; no further condition. -/
import Derived.Test.YtjbplncpcgfaoaaMem
import Derived.Deep.AppendSrc
import Derived.Laws.IdiomCopy
import Derived.Deep.AppendLies
open Go Go.RowKit
namespace Go.Proofs.L
/-- a window on a row: n elements of sz cells, and the room behind them -/
def Win (w : World) (sz : Nat) (v : Value) (n : Nat) (xs : List Value) : Prop :=
  xs.length = n * sz ∧ ((v = .slice none 0 0 ∧ n = 0) ∨ ∃ g o cap, v = .slice (some ⟨g, o, none⟩) n cap ∧ n ≤ cap ∧ g < w.heap.size ∧
    (∀ j u, xs[j]? = some u → w.cell? ⟨g, o + j, none⟩ = some u) ∧ (∀ j, j < cap * sz → (w.cell? ⟨g, o + j, none⟩).isSome = true ∧ w.frozen? ⟨g, o + j, none⟩ = false))
theorem win_nil (w : World) (sz : Nat) : Win w sz (.slice none 0 0) 0 [] := ⟨by simp, .inl ⟨rfl, rfl⟩⟩
theorem Win.lt {w sz v n xs} (h : Win w sz v n xs) : ∀ k, v.ownBlock = some k → k < w.heap.size := by
  intro k hk
  rcases h.2 with ⟨rfl, _⟩ | ⟨g, o, cap, rfl, _, hg, _⟩
  · simp [Value.ownBlock] at hk
  · simp [Value.ownBlock] at hk; omega
theorem Win.keep {E : List Nat} {w w' : World} {sz v n xs} (h : Win w sz v n xs) (hc : Chg E w w') (hE : ∀ k, v.ownBlock = some k → k ∉ E) : Win w' sz v n xs := by
  refine ⟨h.1, ?_⟩
  rcases h.2 with hn | ⟨g, o, cap, rfl, hcap, hg, h1, h2⟩
  · exact .inl hn
  · have hb := hc.block g hg (hE g rfl)
    refine .inr ⟨g, o, cap, rfl, hcap, Nat.lt_of_lt_of_le hg hc.size, fun j u hu => ?_, fun j hj => ?_⟩
    · rw [World.cell?_of_block (w := w) (by exact hb)]; exact h1 j u hu
    · rw [World.cell?_of_block (w := w) (by exact hb), World.frozen?_of_block (w := w) (by exact hb)]; exact h2 j hj
theorem Win.form {w sz v n xs} (h : Win w sz v n xs) : ∃ p cap, v = .slice p n cap ∧ (0 < n → ∃ g o, p = some ⟨g, o, none⟩ ∧ n ≤ cap ∧ ∀ j u, xs[j]? = some u → w.cell? ⟨g, o + j, none⟩ = some u) := by
  rcases h.2 with ⟨rfl, rfl⟩ | ⟨g, o, cap, rfl, hcap, hg, h1, h2⟩
  · exact ⟨_, _, rfl, fun h => by omega⟩
  · exact ⟨_, _, rfl, fun _ => ⟨g, o, rfl, hcap, h1⟩⟩
/-- the window from its second element on -/
theorem Win.tail {w sz n xs g o cap} (h : Win w sz (.slice (some ⟨g, o, none⟩) (n + 1) cap) (n + 1) xs) : Win w sz (.slice (some ⟨g, o + sz, none⟩) n (cap - 1)) n (xs.drop sz) := by
  refine ⟨by rw [List.length_drop, h.1, Nat.add_mul]; omega, ?_⟩
  rcases h.2 with ⟨h0, _⟩ | ⟨g', o', cap', he, hcap, hg, h1, h2⟩
  · cases h0
  · injection he with e1 e2 e3
    injection e1 with e1
    injection e1 with e1 e4
    subst e1 e4 e3
    refine .inr ⟨g, o + sz, cap - 1, rfl, by omega, hg, fun j u hu => ?_, fun j hj => ?_⟩
    · rw [List.getElem?_drop] at hu
      have := h1 _ _ hu
      rwa [show o + (sz + j) = o + sz + j by omega] at this
    · have : sz + j < cap * sz := by
        obtain ⟨c, rfl⟩ : ∃ c, cap = c + 1 := ⟨cap - 1, by omega⟩
        rw [Nat.add_mul]; simp at hj; omega
      have := h2 (sz + j) this
      rwa [show o + (sz + j) = o + sz + j by omega] at this
theorem Win.tail' {w sz n xs g o cap} (h : Win w sz (.slice (some ⟨g, o, none⟩) (n + 1) cap) (n + 1) xs) : Win w sz (.slice (if cap = 1 then some ⟨g, o, none⟩ else some ⟨g, o + sz, none⟩) n (cap - 1)) n (xs.drop sz) := by
  by_cases hc : cap = 1
  · have ht := h.tail
    rcases h.2 with ⟨h0, _⟩ | ⟨g', o', cap', he, hcap, hg, h1, h2⟩
    · cases h0
    · injection he with e1 e2 e3
      injection e1 with e1
      injection e1 with e1 e4
      subst e1 e4 e3
      subst hc
      have : n = 0 := by omega
      subst this
      have hx : xs.drop sz = [] := List.eq_nil_of_length_eq_zero (by simpa using ht.1)
      rw [if_pos rfl, hx]
      exact ⟨by simp, .inr ⟨g, o, 0, rfl, by omega, hg, fun j u hu => by simp at hu, fun j hj => by simp at hj⟩⟩
  · rw [if_neg hc]; exact h.tail
theorem chg_setCells (b : Nat) : ∀ (vs : List Value) (o : Nat) (w : World), Chg [b] w (w.setCells b o vs)
  | [], _, w => Chg.refl _ _
  | v :: r, o, w => ((Chg.refl [b] w).setCell (p := ⟨b, o, none⟩) (Or.inl (by simp)) v).trans (chg_setCells b r (o + 1) _)
theorem run_append_win {P : Program} (w : World) (t ty e : TypeId) (i : TypeInfo) (z : Value) (size bytes : Nat) (ht : P.underlying t = some (.slice e)) (hi : P.info? e = some i) (hz : i.zero = some z)
    (hsize : i.size = size) (hby : i.bytes = bytes) (hzs : z.cells.size = size) (v : Value) (n : Nat) (xs : List Value) (hw : Win w size v n xs)
    (ad : Addr) (m c : Nat) (news : List Value) (hl : news.length = m * size) (hnews : ∀ j u, news[j]? = some u → w.cell? (ad.add j) = some u) (h1 : ∀ u ∈ news, u.oneCell' = true)
    (hm : 0 < m) (h63 : n + m ≤ maxLen) (hbytes : (n + m) * bytes ≤ 140737488355328) :
    ∃ v' w', (Builtin.append_ #[t, t] ty #[v, .slice (some ad) m c]).run P w = .ok v' w' ∧ Win w' size v' (n + m) (xs ++ news) ∧ Chg v.ownBlock.toList w w' ∧ (v'.ownBlock = v.ownBlock ∨ v'.ownBlock = some w.heap.size) := by
  subst hsize hby
  have hlen : (xs ++ news).length = (n + m) * i.size := by rw [List.length_append, hw.1, hl, Nat.add_mul]
  have hsmall : n + m ≤ 9223372036854775807 := by simp only [maxLen] at h63; omega
  have hadd : ∀ (b o j : Nat), (⟨b, o, none⟩ : Addr).add j = ⟨b, o + j, none⟩ := fun b o j => by unfold Addr.add; split <;> simp_all
  have grown : ∀ (cap : Nat), n + m ≤ cap → Win (w.drew.alloc (.cells (xs.toArray ++ news.toArray ++ Builtin.zeroCells z.cells (cap - (n + m))) e)) i.size (.slice (some ⟨w.heap.size, 0, none⟩) (n + m) cap) (n + m) (xs ++ news) := by
    intro cap hcap
    have hr : (w.drew.alloc (.cells (xs.toArray ++ news.toArray ++ Builtin.zeroCells z.cells (cap - (n + m))) e)).row? w.heap.size = some (xs.toArray ++ news.toArray ++ Builtin.zeroCells z.cells (cap - (n + m))) := row_alloc_at _ _ _ _ rfl
    refine ⟨hlen, .inr ⟨w.heap.size, 0, cap, rfl, hcap, by simp, fun j u hu => ?_, fun j hj => ?_⟩⟩
    · rw [row_cell hr, Nat.zero_add, Array.getElem?_append_left (by have := (List.getElem?_eq_some_iff.1 hu).1; simpa using this)]
      simpa using hu
    · refine ⟨?_, row_free hr _⟩
      rw [row_cell hr, Nat.zero_add]
      have : j < (xs.toArray ++ news.toArray ++ Builtin.zeroCells z.cells (cap - (n + m))).size := by
        rw [Array.size_append, size_zeroCells, hzs]
        have h2 : (xs.toArray ++ news.toArray).size = (n + m) * i.size := by simpa using hlen
        rw [h2, ← Nat.add_mul, show n + m + (cap - (n + m)) = cap by omega]; exact hj
      rw [Array.getElem?_eq_getElem this]; rfl
  rcases hw.2 with ⟨rfl, rfl⟩ | ⟨g, o, cap, rfl, hcap, hg, hc, hroom⟩
  · have hx : xs = [] := List.eq_nil_of_length_eq_zero (by simpa using hw.1)
    subst hx
    have hr := run_append_nil (P := P) w t ty e i z ht hi hz ad m c news hl hnews (by omega) (by omega) (by have hb := hbytes; simp only [Nat.zero_add] at hb; omega)
    have hgr := grown (grownCap w m 0 e) (by have := grownCap_ge w m 0 e; omega)
    simp only [Nat.zero_add, List.nil_append, Array.empty_append] at hgr ⊢
    exact ⟨_, _, hr, hgr, ((Chg.refl _ _).drew).alloc _, .inr rfl⟩
  · have hnl : n * i.size + news.length = (n + m) * i.size := by rw [hl, Nat.add_mul]
    by_cases hr : n + m ≤ cap
    · have hle : (n + m) * i.size ≤ cap * i.size := Nat.mul_le_mul_right _ hr
      have hrun := run_append_room_src (P := P) (w := w) t t ty e i ht hi g o n cap (.slice (some ad) m c) m news (Src.ofSlice w ht ad m c news hl hnews h1) hr
        (fun j hj => by have := (hroom (n * i.size + j) (by omega)).1; rwa [← Nat.add_assoc] at this) (fun j hj => by have := (hroom (n * i.size + j) (by omega)).2; rwa [← Nat.add_assoc] at this)
      have hcg := chg_setCells g news (o + n * i.size) w
      refine ⟨_, _, hrun, ⟨hlen, .inr ⟨g, o, cap, rfl, hr, Nat.lt_of_lt_of_le hg hcg.size, fun j u hu => ?_, fun j hj => ?_⟩⟩, hcg, .inl rfl⟩
      · by_cases hj : j < xs.length
        · rw [World.cell?_setCells_out g news _ w _ (fun _ _ => .inl (by have := hw.1; simp; omega))]
          exact hc j u (by rwa [List.getElem?_append_left hj] at hu)
        · have hjl : j < (xs ++ news).length := (List.getElem?_eq_some_iff.1 hu).1
          have hj2 : j - xs.length < news.length := by simp at hjl; omega
          have h3 := World.cell?_setCells_in g news (o + n * i.size) w (fun k hk => by have := (hroom (n * i.size + k) (by omega)).1; rwa [← Nat.add_assoc] at this) (j - xs.length) hj2
          rw [show o + n * i.size + (j - xs.length) = o + j by have := hw.1; omega] at h3
          rw [h3, ← hu, List.getElem?_append_right (by omega), List.getElem?_eq_getElem hj2]
      · rw [World.frozen?_setCells]
        refine ⟨?_, (hroom j hj).2⟩
        by_cases hin : n * i.size ≤ j ∧ j < n * i.size + news.length
        · have h3 := World.cell?_setCells_in g news (o + n * i.size) w (fun k hk => by have := (hroom (n * i.size + k) (by omega)).1; rwa [← Nat.add_assoc] at this) (j - n * i.size) (by omega)
          rw [show o + n * i.size + (j - n * i.size) = o + j by omega] at h3
          rw [h3]; rfl
        · rw [World.cell?_setCells_out g news _ w _ (fun _ _ => by simp; omega)]
          exact (hroom j hj).1
    · have holds : ∀ j u, xs[j]? = some u → w.cell? ((⟨g, o, none⟩ : Addr).add j) = some u := fun j u hu => by rw [hadd]; exact hc j u hu
      have hrun := run_append_grow (P := P) w t ty e i z ht hi hz ⟨g, o, none⟩ n cap xs hw.1 holds ad m c news hl hnews (by omega) (by omega) (growslice_fits (by omega) hbytes)
      exact ⟨_, _, hrun, grown _ (grownCap_ge w (n + m) cap e), ((Chg.refl _ _).drew).alloc _, .inr rfl⟩
theorem wpList_append_win {P : Program} {ops : Array Oper} {rest : List Oper} {o : Oper} {a : Act} {Q : Exit → Act → World → Prop} {w : World} (hgd : o.guard = none) (s x : Operand) (t : TypeId)
    (ho : o.op = .call { callee := .builtin .append, args := #[s, x], argTypes := #[t, t] }) (e : TypeId) (i : TypeInfo) (z : Value) (size bytes : Nat) (ht : P.underlying t = some (.slice e)) (hi : P.info? e = some i) (hz : i.zero = some z)
    (hsize : i.size = size) (hby : i.bytes = bytes) (hzs : z.cells.size = size) (v : Value) (n : Nat) (xs : List Value) (hs : a.eval s = v) (hw : Win w size v n xs)
    (ad : Addr) (m c : Nat) (news : List Value) (hx : a.eval x = .slice (some ad) m c) (hl : news.length = m * size) (hnews : ∀ j u, news[j]? = some u → w.cell? (ad.add j) = some u) (h1 : ∀ u ∈ news, u.oneCell' = true)
    (hm : 0 < m) (h63 : n + m ≤ maxLen) (hbytes : (n + m) * bytes ≤ 140737488355328)
    (h : ∀ v' w', Win w' size v' (n + m) (xs ++ news) → Chg v.ownBlock.toList w w' → (v'.ownBlock = v.ownBlock ∨ v'.ownBlock = some w.heap.size) → wpList P ops Q rest (a.put o.dst v') w') : wpList P ops Q (o :: rest) a w :=
  wpList_plain hgd fun K hK => by
    obtain ⟨v', w', hr, h2, h3, h4⟩ := run_append_win (P := P) w t o.type e i z size bytes ht hi hz hsize hby hzs v n xs hw ad m c news hl hnews h1 hm h63 hbytes
    unfold Oper.wp execOp
    simp only [ho, resolve, invoke, builtin, Sem.run_bind, Sem.run_pure, Result.andThen_ok, List.map_toArray, List.map_cons, List.map_nil, hs, hx, hr]
    exact hK _ _ (h v' w' h2 h3 h4)
end Go.Proofs.L
