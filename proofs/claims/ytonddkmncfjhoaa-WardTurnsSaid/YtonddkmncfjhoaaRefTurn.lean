/- Proved here: lemmas and contracts (RefTurn) for the laws of this seat, for all values of the stated types; no further condition. -/
import Derived.Test.YtonddkmncfjhoaaNoneWalk
open Go Go.RowKit Go.Lib
namespace Go.Proofs.L
/-- numbered statuses: the cells of one, of several -/
def oneL (f : Nat → Sta) (i : Nat) : List Value := .int .i64 (i : Int) :: stL (f i)
theorem oneL_len (f i) : (oneL f i).length = 36 := by simp [oneL, stL_len]
theorem oneL_0 (f i) : (oneL f i)[0]? = some (.int .i64 (i : Int)) := rfl
theorem oneL_s (f i j) : (oneL f i)[j + 1]? = (stL (f i))[j]? := rfl
theorem oneL_all (f i) : ∀ v ∈ oneL f i, v.oneCell' = true := by
  intro v hv
  rcases List.mem_cons.1 hv with rfl | h
  · rfl
  · exact stL_all _ v h
def ol (f : Nat → Sta) (l : List Nat) : List Value := l.flatMap (oneL f)
theorem ol_len (f) : ∀ l, (ol f l).length = l.length * 36
  | [] => by simp [ol]
  | i :: l => by
    have := ol_len f l
    unfold ol at this ⊢
    rw [List.flatMap_cons, List.length_append, oneL_len, this, List.length_cons, Nat.add_mul]; omega
theorem ol_get (f) : ∀ (l : List Nat) (i m j : Nat), l[i]? = some m → j < 36 → (ol f l)[i * 36 + j]? = (oneL f m)[j]?
  | [], i, m, j, h, _ => by simp at h
  | a :: l, 0, m, j, h, hj => by
    have : a = m := by simpa using h
    subst this
    unfold ol
    rw [List.flatMap_cons, List.getElem?_append_left (by rw [oneL_len]; omega)]; simp
  | a :: l, i + 1, m, j, h, hj => by
    have ih := ol_get f l i m j (by simpa using h) hj
    unfold ol at ih ⊢
    rw [List.flatMap_cons, List.getElem?_append_right (by rw [oneL_len]; omega), oneL_len, ← ih]
    congr 1; omega
theorem ol_all (f l) : ∀ v ∈ ol f l, v.oneCell' = true := by
  intro v hv
  unfold ol at hv
  obtain ⟨i, -, h⟩ := List.mem_flatMap.1 hv
  exact oneL_all f i v h
theorem ol_append (f a b) : ol f (a ++ b) = ol f a ++ ol f b := by unfold ol; rw [List.flatMap_append]
theorem ol_congr {f g : Nat → Sta} {l : List Nat} (h : ∀ i ∈ l, f i = g i) : ol f l = ol g l := by
  induction l with
  | nil => rfl
  | cons a l ih =>
    have e := ih fun i hi => h i (by simp [hi])
    unfold ol at e ⊢
    rw [List.flatMap_cons, List.flatMap_cons, e]
    unfold oneL; rw [h a (by simp)]
/-- the reference's ward: those that are ready, and the others -/
structure Rw (w : World) (b : Nat) (rl gl : List Nat) (f : Nat → Sta) (vr vg : Value) : Prop where
  row : w.row? b = some #[vr, vg]
  r : Win w 36 vr rl.length (ol f rl)
  g : Win w 36 vg gl.length (ol f gl)
  nr : ∀ x, vr.ownBlock = some x → x ≠ b
  ng : ∀ x, vg.ownBlock = some x → x ≠ b
  rg : ∀ x, vr.ownBlock = some x → vg.ownBlock ≠ some x
theorem Rw.lt {w b rl gl f vr vg} (h : Rw w b rl gl f vr vg) : b < w.heap.size := row_lt h.row
theorem Rw.c0 {w b rl gl f vr vg} (h : Rw w b rl gl f vr vg) : w.cell? ⟨b, 0, none⟩ = some vr := by rw [row_cell h.row]; rfl
theorem Rw.c1 {w b rl gl f vr vg} (h : Rw w b rl gl f vr vg) : w.cell? ⟨b, 1, none⟩ = some vg := by rw [row_cell h.row]; rfl
theorem Rw.fr {w b rl gl f vr vg} (h : Rw w b rl gl f vr vg) (i : Nat) : w.frozen? ⟨b, i, none⟩ = false := row_free h.row i
theorem Rw.keep {E w w' b rl gl f vr vg} (h : Rw w b rl gl f vr vg) (hc : Chg E w w') (hb : b ∉ E) (hr : ∀ x, vr.ownBlock = some x → x ∉ E) (hg : ∀ x, vg.ownBlock = some x → x ∉ E) : Rw w' b rl gl f vr vg :=
  ⟨by rw [hc.row h.lt hb]; exact h.row, h.r.keep hc hr, h.g.keep hc hg, h.nr, h.ng, h.rg⟩
theorem Rw.keep0 {w w' b rl gl f vr vg} (h : Rw w b rl gl f vr vg) (hc : Chg [] w w') : Rw w' b rl gl f vr vg := h.keep hc (by simp) (by simp) (by simp)
/-- a window of numbered statuses: the value, and element i -/
theorem win_el {w f l v} (h : Win w 36 v l.length (ol f l)) (i m : Nat) (hi : l[i]? = some m) : ∃ g o c, v = .slice (some ⟨g, o, none⟩) l.length c ∧ (∀ j u, (oneL f m)[j]? = some u → w.cell? ⟨g, o + i * 36 + j, none⟩ = some u) ∧ (∀ j, j < 36 → w.frozen? ⟨g, o + i * 36 + j, none⟩ = false) := by
  have hil : i < l.length := (List.getElem?_eq_some_iff.1 hi).1
  rcases h.2 with ⟨-, h0⟩ | ⟨g, o, c, rfl, -, -, -, -⟩
  · omega
  · refine ⟨g, o, c, rfl, fun j u hu => ?_, fun j hj => ?_⟩
    · have hj : j < 36 := by have := (List.getElem?_eq_some_iff.1 hu).1; rwa [oneL_len] at this
      rw [Nat.add_assoc]
      exact h.cell _ u (by rw [ol_get f l i m j hi hj]; exact hu)
    · rw [Nat.add_assoc]; exact (h.room _ (by omega)).2
theorem win_sl {w sz v n xs} (h : Win w sz v n xs) : ∃ p c, v = .slice p n c := by
  obtain ⟨p, c, rfl, -⟩ := h.form
  exact ⟨p, c, rfl⟩
theorem rturn_none {w b gl f vr vg} (h : Rw w b [] gl f vr vg) : Calls Try.prog 11 #[.pointer (some ⟨b, 0, none⟩)] w fun e w' => e = .returned (.int .i64 (-1)) ∧ w' = w := by
  obtain ⟨p, c, hv⟩ := win_sl h.r
  have c0 := h.c0
  rw [hv] at c0
  clear h hv
  go_enter Try.func11, Try.ntmps11
  go_wp2
  go_ret
  exact ⟨rfl, rfl⟩
theorem rturn_some {w b t rl gl f vr vg} (h : Rw w b (t :: rl) gl f vr vg) : Calls Try.prog 11 #[.pointer (some ⟨b, 0, none⟩)] w fun e w' => e = .returned (.int .i64 (t : Int)) ∧ w' = w := by
  obtain ⟨g, o, c, hv, hc, -⟩ := win_el h.r 0 t rfl
  have c0 := h.c0
  rw [hv] at c0
  have ct := hc 0 _ (oneL_0 f t)
  simp only [Nat.zero_mul, Nat.add_zero] at ct
  obtain ⟨n, hn⟩ : ∃ n, n = (t :: rl).length := ⟨_, rfl⟩
  rw [← hn] at c0
  have n0 : ((n : Int) == 0) = false := by simp at hn; simp; omega
  have n1 : ((n : Int) = 0) = False := by simp at hn; simp; omega
  have n2 : (n = 0) = False := by simp at hn; simp; omega
  have n3 : (0 : Int) < (n : Int) := by simp at hn; omega
  clear h hv hc hn
  go_enter Try.func11, Try.ntmps11
  go_wp2
  go_ret
  exact ⟨rfl, rfl⟩
end Go.Proofs.L
