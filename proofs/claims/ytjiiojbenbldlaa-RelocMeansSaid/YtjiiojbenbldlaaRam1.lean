/- Proved here: lemmas and contracts (Ram1) for the laws of this seat, for all values of the stated types; no further condition. -/
import Derived.Test.YtjiiojbenbldlaaR12
import Derived.Test.YtjiiojbenbldlaaRow
import Derived.Test.YtjiiojbenbldlaaReg
import Derived.OwnWalk
import Derived.IntWalk
import Derived.Maps.OwnOps
import Derived.Maps.Views
open Go Go.RowKit Go.Lib
namespace Go.Proofs.L
attribute [local irreducible] wpT
theorem load4_bad (a : Nat) (ha : a < 4294967296) (h : inRam a 4 = false) (p : Addr) (w : World) : Calls Try.prog 13 #[.pointer (some p), .int .u32 (a : Int), .int .i64 4] w fun e w' => e = .returned (.tuple #[.int .u32 0, .int .i64 18]) ∧ w' = w := by
  have HS := Lib.hid (has_any a 4 ha (by decide) p)
  rw [h] at HS
  clear h
  go_enter Try.func13, Try.ntmps13
  go_wp2_with fail
  refine (HS.out w).mono ?_
  rintro e w' ⟨rfl, rfl⟩
  go_wp2
  go_ret2
  exact ⟨rfl, rfl⟩
theorem store4_bad (a x : Nat) (ha : a < 4294967296) (h : inRam a 4 = false) (p : Addr) (w : World) : Calls Try.prog 17 #[.pointer (some p), .int .u32 (a : Int), .int .i64 4, .int .u32 (x : Int)] w fun e w' => e = .returned (.int .i64 18) ∧ w' = w := by
  have HS := Lib.hid (has_any a 4 ha (by decide) p)
  rw [h] at HS
  clear h
  go_enter Try.func17, Try.ntmps17
  go_wp2_with fail
  refine (HS.out w).mono ?_
  rintro e w' ⟨rfl, rfl⟩
  go_wp2
  go_ret
  exact ⟨rfl, rfl⟩
def rb : Nat := 2147483648
theorem ram_split {a : Nat} (h : inRam a 4 = true) : a = (a - rb) + 2147483648 ∧ (a - rb) + 4 ≤ 65536 := by
  unfold inRam at h
  have := of_decide_eq_true h
  unfold rb
  omega
def ldN (f : Nat → Nat) (a : Nat) : Nat × Nat := if inRam a 4 then (leN f (a - rb) 4, 0) else (0, 18)
def sdN (f : Nat → Nat) (a x : Nat) : (Nat → Nat) × Nat := if inRam a 4 then (stN f (a - rb) x 4, 0) else (f, 18)
theorem load4_any (f : Nat → Nat) (hf : ∀ i, f i < 256) (a b : Nat) (ha : a < 4294967296) (w : World) (hw : w.row? b = some (mem f)) : Calls Try.prog 13 #[.pointer (some ⟨b, 0, none⟩), .int .u32 (a : Int), .int .i64 4] w fun e w' => e = .returned (.tuple #[.int .u32 ((ldN f a).1 : Int), .int .i64 ((ldN f a).2 : Int)]) ∧ Chg [] w w' := by
  unfold ldN
  cases h : inRam a 4
  · exact (load4_bad a ha h _ w).mono fun e w' ⟨h1, h2⟩ => ⟨h1, by rw [h2]; exact Chg.refl _ _⟩
  · obtain ⟨h1, h2⟩ := ram_split h
    exact (load_ok f hf a (a - rb) 4 b h1 (.inr (.inr rfl)) h2 w hw).mono fun e w' q => ⟨q.1, by rw [q.2]; exact Chg.refl _ _⟩
theorem store4_any (f : Nat → Nat) (a b x : Nat) (ha : a < 4294967296) (hx : x < 4294967296) (w : World) (hw : w.row? b = some (mem f)) : Calls Try.prog 17 #[.pointer (some ⟨b, 0, none⟩), .int .u32 (a : Int), .int .i64 4, .int .u32 (x : Int)] w fun e w' => e = .returned (.int .i64 ((sdN f a x).2 : Int)) ∧ w'.row? b = some (mem (sdN f a x).1) ∧ Chg [b] w w' := by
  unfold sdN
  cases h : inRam a 4
  · exact (store4_bad a x ha h _ w).mono fun e w' ⟨h1, h2⟩ => ⟨h1, by rw [h2]; exact ⟨hw, Chg.refl _ _⟩⟩
  · obtain ⟨h1, h2⟩ := ram_split h
    exact (store_ok f a (a - rb) 4 b x h1 (.inr (.inr rfl)) h2 hx w hw).mono fun e w' q => q
end Go.Proofs.L

open Go Go.RowKit Go.Lib
namespace Go.Proofs.L
/-! own slices that grow: the change, the form, the cells (for any program) -/
theorem grown_chg {w w' : World} {row : Option Nat} (h : w.grownBy w' row) : Chg row.toList w w' :=
  ⟨h.os, h.tape, h.output, h.size, fun k hk hn => h.block k hk (fun e => hn (by subst e; simp))⟩
theorem info_parts {P : Program} {t : TypeId} {z : Value} {s b : Nat} (h : (P.info? t).map (fun i => (i.zero, i.size, i.bytes)) = some (some z, s, b)) : ∃ i, P.info? t = some i ∧ i.zero = some z ∧ i.size = s ∧ i.bytes = b := by
  cases hi : P.info? t with
  | none => rw [hi] at h; cases h
  | some i => rw [hi] at h; simp at h; exact ⟨i, rfl, h.1, h.2.1, h.2.2⟩
theorem own_form {w : World} {base e size n : Nat} {v : Value} {xs : List Value} (h : w.ownsRow base e size v n xs) :
    ∃ p cap, v = .slice p n cap ∧ (0 < n → ∃ g, p = some ⟨g, 0, none⟩ ∧ (Value.slice p n cap).ownBlock = some g) := by
  rcases h.2 with ⟨rfl, rfl⟩ | ⟨g, cap, cur, rfl, _⟩
  · exact ⟨_, _, rfl, fun h => by omega⟩
  · exact ⟨_, _, rfl, fun _ => ⟨g, rfl, rfl⟩⟩
theorem cellsAt {w : World} {base e size n : Nat} {v : Value} {xs : List Value} (h : w.ownsRow base e size v n xs) {g : Nat} (hg : v.ownBlock = some g) (j : Nat) (u : Value) (hu : xs[j]? = some u) : w.cell? ⟨g, j, none⟩ = some u := by
  have := World.ownsRow.cells h hg j u hu
  rwa [show (⟨g, 0, none⟩ : Addr).add j = ⟨g, j, none⟩ from by unfold Addr.add; split <;> simp_all] at this
theorem wrap1 (k : Nat) (h : k < 100000000) : wrap64 ((k : Int) + 1) = ((k + 1 : Nat) : Int) := by
  rw [IntWalk.wrap64_in _ ⟨by omega, by omega⟩]; simp
theorem ownsRow_chg {E : List Nat} {w w' : World} {base e size n : Nat} {v : Value} {xs : List Value} (h : w.ownsRow base e size v n xs) (hc : Chg E w w') (hE : ∀ k, v.ownBlock = some k → k ∉ E) : w'.ownsRow base e size v n xs := by
  refine ⟨h.1, ?_⟩
  rcases h.2 with hn | ⟨g, cap, cur, rfl, hb, hgg, rest⟩
  · exact .inl hn
  · exact .inr ⟨g, cap, cur, rfl, hb, by rw [hc.block g (Array.getElem?_eq_some_iff.1 hgg).1 (hE g rfl)]; exact hgg, rest⟩
/-- growth of a block that is newer than W changes nothing that W has -/
theorem chg_grown {W w w' : World} {row : Option Nat} (h : Chg [] W w) (hg : w.grownBy w' row) (hr : ∀ k, row = some k → W.heap.size ≤ k) : Chg [] W w' := by
  have hc := grown_chg hg
  exact ⟨hc.os.trans h.os, hc.tape.trans h.tape, hc.output.trans h.output, Nat.le_trans h.size hc.size, fun k hk _ => by
    rw [hc.block k (Nat.lt_of_lt_of_le hk h.size) (fun hm => by
      cases row with
      | none => simp at hm
      | some r => simp at hm; subst hm; have := hr k rfl; omega), h.block k hk (by simp)]⟩
/-- where an array of news lies -/
theorem news_row {w : World} {b : Nat} {cs : List Value} (h : w.row? b = some cs.toArray) : ∀ j u, cs[j]? = some u → w.cell? ((⟨b, 0, none⟩ : Addr).add j) = some u := by
  intro j u hu
  rw [show ((⟨b, 0, none⟩ : Addr).add j) = ⟨b, j, none⟩ by cases j <;> simp [Addr.add], row_cell h j, ← hu]
  simp
end Go.Proofs.L

open Go Go.RowKit Go.Lib
namespace Go.Proofs.L
/-! own slices, more: a new one, its row, a cell set, a lower base; append of numbers -/
theorem own_new {w : World} {base e size n : Nat} {vs : List Value} (hb : base ≤ w.heap.size) (hl : vs.length = n * size) (hm : n ≤ maxLen) : (w.alloc (.cells vs.toArray e)).ownsRow base e size (.slice (some ⟨w.heap.size, 0, none⟩) n n) n vs :=
  ⟨hl, .inr ⟨w.heap.size, n, vs.toArray, rfl, hb, by unfold World.alloc; simp, Nat.le_refl _, hm, by simp [hl], by rw [← hl]; simp⟩⟩
theorem own_row {w : World} {base e size n g cap : Nat} {xs : List Value} (h : w.ownsRow base e size (.slice (some ⟨g, 0, none⟩) n cap) n xs) : ∃ tl : List Value, w.row? g = some (xs ++ tl).toArray ∧ base ≤ g ∧ n ≤ cap := by
  rcases h.2 with ⟨h, _⟩ | ⟨g', cap', cur, hv, hb, hg, h1, h2, h3, h4⟩
  · cases h
  · cases hv
    refine ⟨cur.toList.drop (n * size), ?_, hb, h1⟩
    rw [← h4, List.take_append_drop]
    exact row_iff.2 ⟨e, hg⟩
theorem own_setCell {w : World} {base e size n g cap : Nat} {xs : List Value} (h : w.ownsRow base e size (.slice (some ⟨g, 0, none⟩) n cap) n xs) (j : Nat) (u : Value) : (w.setCell ⟨g, j, none⟩ u).ownsRow base e size (.slice (some ⟨g, 0, none⟩) n cap) n (xs.set j u) := by
  refine ⟨by simpa using h.1, .inr ?_⟩
  rcases h.2 with ⟨h, _⟩ | ⟨g', cap', cur, hv, hb, hg, h1, h2, h3, h4⟩
  · cases h
  · cases hv
    refine ⟨g, cap, cur.setIfInBounds j u, rfl, hb, ?_, h1, h2, by simpa using h3, ?_⟩
    · unfold World.setCell
      simp only [Array.getElem?_modify, ↓reduceIte]
      rw [hg]
      simp
    · rw [← h4, Array.toList_setIfInBounds, List.take_set]
theorem own_base {w : World} {b1 b2 e size n : Nat} {v : Value} {xs : List Value} (h : w.ownsRow b1 e size v n xs) (hb : b2 ≤ b1) : w.ownsRow b2 e size v n xs := by
  refine ⟨h.1, ?_⟩
  rcases h.2 with h | ⟨g, cap, cur, hv, hg, rest⟩
  · exact .inl h
  · exact .inr ⟨g, cap, cur, hv, by omega, rest⟩
theorem natU_one (k : IntKind) (L : List Nat) : ∀ u ∈ L.map (fun x : Nat => Value.int k (x : Int)), u.oneCell' = true := by
  intro u hu
  rw [List.mem_map] at hu
  obtain ⟨x, _, rfl⟩ := hu
  rfl
/-- append of numbers onto an own slice of numbers -/
theorem app_nat {P : Program} {w : World} {ops : Array Oper} {rest : List Oper} {o : Oper} {a : Act} {Q : Exit → Act → World → Prop} (hgd : o.guard = none) (s x : Operand) (t e : TypeId) (k : IntKind) (bytes : Nat)
    (ho : o.op = .call { callee := .builtin .append, args := #[s, x], argTypes := #[t, t] }) (ht : P.underlying t = some (.slice e)) (hI : (P.info? e).map (fun i => (i.zero, i.size, i.bytes)) = some (some (.int k 0), 1, bytes)) (hb8 : bytes ≤ 8)
    (base : Nat) (v : Value) (n : Nat) (L : List Nat) (hs : a.eval s = v) (hown : w.ownsRow base e 1 v n (L.map fun x : Nat => Value.int k (x : Int)))
    (b f m c : Nat) (M : List Nat) (hx : a.eval x = .slice (some ⟨b, f, none⟩) m c) (hl : M.length = m) (hrow : ∀ (j y : Nat), M[j]? = some y → w.cell? ⟨b, f + j, none⟩ = some (.int k (y : Int))) (hn : n + m < 100000000) (hbase : base ≤ w.heap.size)
    (h : ∀ v' w', w'.ownsRow base e 1 v' (n + m) ((L ++ M).map fun x : Nat => Value.int k (x : Int)) → w.grownBy w' v.ownBlock → wpList P ops Q rest (a.put o.dst v') w') : wpList P ops Q (o :: rest) a w := by
  obtain ⟨i, hi, hz, h1, h2⟩ := info_parts hI
  refine wpList_append_own w hgd s x t ho base e i (.int k 0) 1 bytes ht hi hz h1 h2 rfl (by decide) v n _ hs hown ⟨b, f, none⟩ m c (M.map fun x : Nat => Value.int k (x : Int)) hx (by simp [hl]) (fun j u hu => ?_) (natU_one k M) (by unfold maxLen; omega) (by
    have : (n + m) * bytes ≤ 100000000 * 8 := Nat.mul_le_mul (by omega) hb8
    omega) hbase (fun v' w' q1 q2 _ => h v' w' (by rw [List.map_append]; exact q1) q2)
  rw [List.getElem?_map] at hu
  cases hq : M[j]? with
  | none => rw [hq] at hu; cases hu
  | some y =>
    rw [hq] at hu
    obtain rfl := Option.some.inj hu
    rw [show (⟨b, f, none⟩ : Addr).add j = ⟨b, f + j, none⟩ from by unfold Addr.add; split <;> simp_all]
    exact hrow j y hq
end Go.Proofs.L

open Go Go.RowKit Go.Lib Go.Maps
namespace Go.Proofs.L
attribute [local irreducible] wpT
/-! the reference's memory: a map from addresses to bytes -/
theorem kd3 : Keyed Try.prog 3 := int_keyed Try.underlying3
theorem ze5 (w : World) : (zeroValue 5).run Try.prog w = .ok (.int .u8 0) w := by kernel_rfl
theorem info5 : (Try.prog.info? 5).map (fun i => (i.zero, i.size, i.bytes)) = some (some (.int .u8 0), 1, 1) := by kernel_rfl
def keyN (i : Nat) : Lit := .int .i64 ((2147483648 + i : Nat) : Int)
structure MapF (D : DataW Unit) (f : Nat → Nat) : Prop where
  at_ : ∀ i, i < 65536 → D.atKey (keyN i) (.lit (.int .u8 0)) = .lit (.int .u8 (f i : Int))
  has_ : ∀ k, has D k = true → ∃ i, i < 65536 ∧ k = keyN i
  map_ : IsMap D
structure RamAt (w : World) (p m n : Nat) (f : Nat → Nat) : Prop where
  row : w.row? p = some #[.map (some m)]
  own : ∃ D : DataW Unit, w.ownsMap Try.prog 3 (plainElem Try.prog 5) m n D ∧ MapF D f
  ne : p ≠ m
theorem ownsMap_chg {E : List Nat} {w w' : World} {P : Program} {k : TypeId} {R : Value → Option (DataW Unit × List MemPlace)} {b n : Nat} {D : DataW Unit} (h : w.ownsMap P k R b n D) (hc : Chg E w w') (hE : b ∉ E) : w'.ownsMap P k R b n D := by
  have hlt := h.lt
  obtain ⟨es, clock, hb, rest⟩ := h
  exact ⟨es, clock, (hc.block b hlt hE).trans hb, rest⟩
theorem RamAt.keep {E : List Nat} {w w' : World} {p m n : Nat} {f : Nat → Nat} (h : RamAt w p m n f) (hc : Chg E w w') (hp : p ∉ E) (hm : m ∉ E) : RamAt w' p m n f := by
  obtain ⟨D, h1, h2⟩ := h.own
  exact ⟨(hc.row (row_lt h.row) hp).trans h.row, ⟨D, ownsMap_chg h1 hc hm, h2⟩, h.ne⟩
theorem keyN_ne {i j : Nat} (h : i ≠ j) : keyN i ≠ keyN j := by
  unfold keyN; intro e; injection e with _ e; omega
theorem keyN_lit (i : Nat) : WideAt.IsKeyLit (keyN i) := by unfold keyN; first | exact trivial | exact True.intro | (simp [WideAt.IsKeyLit])
theorem MapF.put {D : DataW Unit} {f : Nat → Nat} (h : MapF D f) (i x : Nat) (hi : i < 65536) : MapF (D.put (keyN i) (.lit (.int .u8 (x : Int)))) (up f i x) where
  at_ j hj := by
    by_cases e : j = i
    · subst e
      rw [atKey_put_same h.map_ (keyN_lit j)]
      simp [up]
    · rw [atKey_put_other (keyN_ne e), h.at_ j hj]
      simp [up, e]
  has_ k hk := by
    by_cases e : k = keyN i
    · exact ⟨i, hi, e⟩
    · rw [has_put_other e] at hk
      exact h.has_ k hk
  map_ := h.map_.put _ _
theorem rnew_any (w : World) : Calls Try.prog 21 #[] w fun e w' => ∃ p m, e = .returned (.pointer (some ⟨p, 0, none⟩)) ∧ RamAt w' p m 0 (fun _ => 0) ∧ Chg [] w w' ∧ w.heap.size ≤ p ∧ w.heap.size ≤ m := by
  have hmm := @run_makeMap Try.prog
  go_enter Try.func21, Try.ntmps21
  go_wp2
  go_ret
  refine ⟨_, w.heap.size, rfl, ⟨?_, ⟨.map [], ?_, ⟨fun i _ => rfl, fun k hk => by simp [has_eq] at hk, isMap_empty⟩⟩, by simp⟩, ((Chg.refl _ _).alloc _).alloc _, by simp, Nat.le_refl _⟩
  · exact row_alloc_at _ _ _ _ (by simp)
  · exact (World.ownsMap_made w Try.prog 3 (plainElem Try.prog 5)).alloc _
theorem rhas_any (a n : Nat) (ha : a < 8589934592) (hn : n < 8589934592) (w : World) : Calls Try.prog 48 #[.int .i64 (a : Int), .int .i64 (n : Int)] w fun e w' => e = .returned (.bool (inRam a n)) ∧ w' = w := by
  obtain ⟨s, hs⟩ : ∃ s, s = a + n := ⟨_, rfl⟩
  have h1 : wrap64 ((a : Int) + (n : Int)) = (s : Int) := by rw [IntWalk.wrap64_in _ ⟨by omega, by omega⟩]; omega
  unfold inRam
  rw [← hs]
  have HA := Lib.hid ha
  clear ha hn hs
  by_cases h2 : 2147483648 ≤ a
  · have d2 : (2147483648 : Int) ≤ (a : Int) := by omega
    by_cases h3 : s ≤ 2147549184
    · have d3 : (s : Int) ≤ 2147549184 := by omega
      rw [decide_eq_true (And.intro h2 h3)]
      clear h2 h3
      go_enter Try.func48, Try.ntmps48
      go_wp2
      go_ret
      exact ⟨rfl, rfl⟩
    · have d3 : ¬ (s : Int) ≤ 2147549184 := by omega
      rw [decide_eq_false (fun h => h3 h.2)]
      clear h2 h3
      go_enter Try.func48, Try.ntmps48
      go_wp2
      go_ret
      exact ⟨rfl, rfl⟩
  · have d2 : ¬ (2147483648 : Int) ≤ (a : Int) := by omega
    rw [decide_eq_false (fun h => h2 h.1)]
    clear h2
    go_enter Try.func48, Try.ntmps48
    go_wp2
    go_ret
    exact ⟨rfl, rfl⟩
end Go.Proofs.L
