/- Proved here: lemmas and contracts (Base) for the laws of this seat, for all values of the stated types; no further condition. -/
import Derived.Test.YtonddkmncfjhoaaProg
import Derived.StillTailTactics
import Derived.Lib.Hide
import Derived.OwnWalk
import Derived.Deep.DeepCutAuto
import Derived.Deep.CutBlock
import Derived.Test.YtonddkmncfjhoaaRow
import Derived.Test.YtonddkmncfjhoaaRegT
import Derived.Test.YtonddkmncfjhoaaPart
open Go Go.RowKit Go.Lib
namespace Go.Proofs.L
theorem i64w (z : Int) : IntKind.i64.wrap z = wrap64 z := by simp [IntKind.wrap, IntKind.bits, IntKind.signed, wrap64]; split <;> omega
/-- a payload's status -/
structure Sta where
  s : Int
  c : Nat
  p : Nat
  x : Nat → Nat
def stL (S : Sta) : List Value := [Value.int IntKind.i64 S.s, Value.int IntKind.u32 (S.c : Int), Value.int IntKind.u32 (S.p : Int)] ++ (List.range 32).map fun i => .int .u32 (S.x i : Int)
theorem stL_len (S) : (stL S).length = 35 := by simp [stL]
theorem stL_0 (S) : (stL S)[0]? = some (.int .i64 S.s) := rfl
theorem stL_1 (S) : (stL S)[1]? = some (.int .u32 (S.c : Int)) := rfl
theorem stL_2 (S) : (stL S)[2]? = some (.int .u32 (S.p : Int)) := rfl
theorem stL_x (S) (i : Nat) (h : i < 32) : (stL S)[3 + i]? = some (.int .u32 (S.x i : Int)) := by
  rw [stL, List.getElem?_append_right (by simp)]
  simp [h]
theorem stL_all (S) : ∀ v ∈ stL S, v.oneCell' = true := by
  intro v hv
  simp only [stL, List.mem_append, List.mem_map, List.mem_range, List.mem_cons, List.not_mem_nil, or_false] at hv
  rcases hv with (rfl | rfl | rfl) | ⟨i, -, rfl⟩ <;> rfl
theorem stL_allOne (S) : allOne (stL S).toArray = true := List.all_eq_true.2 fun v hv => stL_all S v (by simpa using hv)
/-- the cells of n statuses -/
def fl (f : Nat → Sta) : Nat → List Value
  | 0 => []
  | n + 1 => fl f n ++ stL (f n)
theorem fl_len (f) : ∀ n, (fl f n).length = n * 35
  | 0 => by simp [fl]
  | n + 1 => by rw [fl, List.length_append, fl_len f n, stL_len, Nat.add_mul]
theorem fl_get (f) : ∀ n i j, i < n → j < 35 → (fl f n)[i * 35 + j]? = (stL (f i))[j]?
  | n + 1, i, j, hi, hj => by
    rw [fl]
    by_cases h : i < n
    · rw [List.getElem?_append_left (by rw [fl_len]; omega), fl_get f n i j h hj]
    · obtain rfl : i = n := by omega
      rw [List.getElem?_append_right (by rw [fl_len]; omega), fl_len]
      congr 1; omega
theorem fl_ext {f : Nat → Sta} {n : Nat} {L : List Value} (hl : L.length = n * 35) (h : ∀ i j, i < n → j < 35 → L[i * 35 + j]? = (stL (f i))[j]?) : L = fl f n := by
  apply List.ext_getElem?
  intro k
  by_cases hk : k < n * 35
  · have := h (k / 35) (k % 35) (by omega) (by omega)
    have h2 := fl_get f n (k / 35) (k % 35) (by omega) (by omega)
    rw [show k / 35 * 35 + k % 35 = k by omega] at this h2
    rw [this, h2]
  · rw [List.getElem?_eq_none (by omega), List.getElem?_eq_none (by rw [fl_len]; omega)]
theorem fl_congr {f g : Nat → Sta} {n : Nat} (h : ∀ i, i < n → f i = g i) : fl f n = fl g n :=
  fl_ext (fl_len f n) fun i j hi hj => by rw [fl_get f n i j hi hj, h i hi]
def ups (f : Nat → Sta) (i : Nat) (S : Sta) : Nat → Sta := fun k => if k = i then S else f k
/-- cells d .. of element i rewritten -/
theorem fl_put {f : Nat → Sta} {n i d : Nat} {vs : List Value} {S' : Sta} (hi : i < n) (hd : d + vs.length ≤ 35) (h : stL S' = (stL (f i)).take d ++ vs ++ (stL (f i)).drop (d + vs.length)) :
    (fl f n).take (i * 35 + d) ++ vs ++ (fl f n).drop (i * 35 + d + vs.length) = fl (ups f i S') n := by
  have hlen := fl_len f n
  refine fl_ext (by simp; omega) fun k j hk hj => ?_
  by_cases hki : k = i
  · subst hki
    unfold ups
    rw [if_pos rfl, h]
    have hl2 := stL_len (f k)
    by_cases h1 : j < d
    · rw [List.getElem?_append_left (by simp; omega), List.getElem?_append_left (by simp; omega), List.getElem?_append_left (by simp; omega), List.getElem?_append_left (by simp; omega), List.getElem?_take, List.getElem?_take, if_pos (by omega), if_pos h1]
      exact fl_get f n k j hk hj
    · by_cases h2 : j < d + vs.length
      · rw [List.getElem?_append_left (by simp; omega), List.getElem?_append_right (by simp; omega), List.getElem?_append_left (by simp; omega), List.getElem?_append_right (by simp; omega)]
        congr 1; simp; omega
      · rw [List.getElem?_append_right (by simp; omega), List.getElem?_append_right (by simp; omega), List.getElem?_drop, List.getElem?_drop]
        rw [← fl_get f n k _ hk (show d + vs.length + (j - (List.take d (stL (f k)) ++ vs).length) < 35 by simp; omega)]
        congr 1; simp; omega
  · have : (ups f i S') k = f k := by unfold ups; rw [if_neg hki]
    rw [this, ← fl_get f n k j hk hj]
    by_cases h1 : k < i
    · rw [List.getElem?_append_left (by simp; omega), List.getElem?_append_left (by simp; omega), List.getElem?_take, if_pos (by omega)]
    · rw [List.getElem?_append_right (by simp; omega), List.getElem?_drop]
      congr 1; simp; omega
theorem fl_mem (f n) : ∀ v ∈ fl f n, v.oneCell' = true := by
  induction n with
  | zero => intro v hv; simp [fl] at hv
  | succ n ih =>
    intro v hv
    rw [fl] at hv
    rcases List.mem_append.1 hv with h | h
    · exact ih v h
    · exact stL_all _ v h
/-- a ward in memory: n statuses, whose turn it is -/
def Wd (w : World) (b : Nat) (n : Nat) (f : Nat → Sta) (t : Int) (g o cap : Nat) : Prop := w.row? b = some #[.slice (some ⟨g, o, none⟩) n cap, .int .i64 t] ∧ Win w 35 (.slice (some ⟨g, o, none⟩) n cap) n (fl f n) ∧ g ≠ b
theorem Wd.lt {w b n f t g o cap} (h : Wd w b n f t g o cap) : b < w.heap.size := row_lt h.1
theorem Wd.ltg {w b n f t g o cap} (h : Wd w b n f t g o cap) : g < w.heap.size := h.2.1.lt g rfl
theorem Wd.c0 {w b n f t g o cap} (h : Wd w b n f t g o cap) : w.cell? ⟨b, 0, none⟩ = some (.slice (some ⟨g, o, none⟩) n cap) := by rw [row_cell h.1]; rfl
theorem Wd.c1 {w b n f t g o cap} (h : Wd w b n f t g o cap) : w.cell? ⟨b, 1, none⟩ = some (.int .i64 t) := by rw [row_cell h.1]; rfl
theorem Wd.fr {w b n f t g o cap} (h : Wd w b n f t g o cap) (i : Nat) : w.frozen? ⟨b, i, none⟩ = false := row_free h.1 i
theorem Wd.ce {w b n f t g o cap} (h : Wd w b n f t g o cap) (i : Nat) (hi : i < n) (j : Nat) (u : Value) (hu : (stL (f i))[j]? = some u) : w.cell? ⟨g, o + i * 35 + j, none⟩ = some u := by
  have hj : j < 35 := by have := (List.getElem?_eq_some_iff.1 hu).1; rwa [stL_len] at this
  rw [Nat.add_assoc]
  exact h.2.1.cell _ u (by rw [fl_get f n i j hi hj]; exact hu)
theorem Wd.fe {w b n f t g o cap} (h : Wd w b n f t g o cap) (i : Nat) (hi : i < n) (j : Nat) (hj : j < 35) : w.frozen? ⟨g, o + i * 35 + j, none⟩ = false := by
  rw [Nat.add_assoc]; exact (h.2.1.room _ (by omega)).2
theorem Wd.keep {E w w' b n f t g o cap} (h : Wd w b n f t g o cap) (hc : Chg E w w') (hb : b ∉ E) (hg : g ∉ E) : Wd w' b n f t g o cap :=
  ⟨by rw [hc.row h.lt hb]; exact h.1, h.2.1.keep hc (fun k hk => by simp [Value.ownBlock] at hk; subst hk; exact hg), h.2.2⟩
theorem Wd.turn {w b n f t g o cap} (h : Wd w b n f t g o cap) (t' : Int) : Wd (w.setCell ⟨b, 1, none⟩ (.int .i64 t')) b n f t' g o cap := by
  have hc : Chg [b] w (w.setCell ⟨b, 1, none⟩ (.int .i64 t')) := (Chg.refl _ _).setCell (Or.inl (by simp)) _
  refine ⟨by rw [row_setCell_same, h.1]; rfl, h.2.1.keep hc (fun k hk => ?_), h.2.2⟩
  simp [Value.ownBlock] at hk; subst hk; simpa using h.2.2
theorem Wd.puts {w b n f t g o cap} (h : Wd w b n f t g o cap) (i d : Nat) (vs : List Value) (S' : Sta) (hi : i < n) (hd : d + vs.length ≤ 35) (hS : stL S' = (stL (f i)).take d ++ vs ++ (stL (f i)).drop (d + vs.length)) :
    Wd (w.setCells g (o + i * 35 + d) vs) b n (ups f i S') t g o cap := by
  have hc := chg_setCells g vs (o + i * 35 + d) w
  refine ⟨by rw [hc.row h.lt (by simpa using h.2.2.symm)]; exact h.1, ?_, h.2.2⟩
  have := win_setCells h.2.1 (i * 35 + d) vs (by omega)
  rw [fl_put hi hd hS, ← Nat.add_assoc] at this
  exact this
theorem Wd.put {w b n f t g o cap} (h : Wd w b n f t g o cap) (i d : Nat) (v : Value) (S' : Sta) (hi : i < n) (hd : d < 35) (hS : stL S' = (stL (f i)).set d v) :
    Wd (w.setCell ⟨g, o + i * 35 + d, none⟩ v) b n (ups f i S') t g o cap := by
  have := h.puts i d [v] S' hi (by simp; omega) (by rw [hS, List.set_eq_take_append_cons_drop, if_pos (by rw [stL_len]; exact hd)]; simp)
  exact this
theorem a40 : aggT Try.prog 40 35 := aggT_of (by kernel_rfl)
theorem a38 : aggT Try.prog 38 32 := aggT_of (by kernel_rfl)
theorem ld40 (ρ x d t p af g w) : Sem.run Try.prog (execOp ρ { dst := d, op := .load 40 x, type := t, pos := p, after := af, guard := g }) w = loadV Try.prog 35 40 w (ρ x) := exec_load_row a40 ρ x d t p af g w
theorem st40 (ρ x y d t p af g w) : Sem.run Try.prog (execOp ρ { dst := d, op := .store 40 x y, type := t, pos := p, after := af, guard := g }) w = storeV Try.prog 35 40 w (ρ x) (ρ y) := exec_store_row a40 ρ x y d t p af g w
theorem ld38 (ρ x d t p af g w) : Sem.run Try.prog (execOp ρ { dst := d, op := .load 38 x, type := t, pos := p, after := af, guard := g }) w = loadV Try.prog 32 38 w (ρ x) := exec_load_row a38 ρ x d t p af g w
/-- no one's status -/
def noSta : Sta := ⟨0, 0, 0, fun _ => 0⟩
end Go.Proofs.L
