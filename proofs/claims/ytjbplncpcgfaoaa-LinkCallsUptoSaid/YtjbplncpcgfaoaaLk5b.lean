/- Proved here: lemmas and contracts (Lk5b) for the laws of this seat, for all values of the stated types; no further condition. -/
import Derived.Test.YtjbplncpcgfaoaaLk5
open Go Go.RowKit Go.Lib Go.Maps
namespace Go.Proofs.L
attribute [local irreducible] wpT
/-! the file under way, step by step -/
structure Lf (w : World) (H0 F m : Nat) (P : List (ByteArray × Nat)) (Rs : List Rl) (vs vr : Value) : Prop where
  row : w.row? F = some #[.int .u32 0, .slice none 0 0, vr, vs]
  os : w.ownsRow H0 25 1 vs (P.length + 1) (symC P)
  or_ : w.ownsRow H0 44 4 vr Rs.length (Rs.flatMap RlC)
  ns : ∀ g, vs.ownBlock = some g → g ≠ F ∧ g ≠ m
  nr : ∀ g, vr.ownBlock = some g → g ≠ F ∧ g ≠ m ∧ vs.ownBlock ≠ some g
  ne : F ≠ m
  hF : H0 ≤ F
  hm : H0 ≤ m
  mlt : m < w.heap.size
theorem Lf.keep {w w' : World} {H0 F m : Nat} {P : List (ByteArray × Nat)} {Rs : List Rl} {vs vr : Value} (h : Lf w H0 F m P Rs vs vr) (hc : Chg [] w w') : Lf w' H0 F m P Rs vs vr :=
  ⟨(hc.row (row_lt h.row) (by simp)).trans h.row, ownsRow_chg h.os hc (by intro k _; simp), ownsRow_chg h.or_ hc (by intro k _; simp), h.ns, h.nr, h.ne, h.hF, h.hm, Nat.lt_of_lt_of_le h.mlt hc.size⟩
theorem Lf.keepM {w w' : World} {H0 F m : Nat} {P : List (ByteArray × Nat)} {Rs : List Rl} {vs vr : Value} (h : Lf w H0 F m P Rs vs vr) (hc : Chg [m] w w') : Lf w' H0 F m P Rs vs vr :=
  ⟨(hc.row (row_lt h.row) (by simpa using h.ne)).trans h.row, ownsRow_chg h.os hc (by intro k hk; simpa using (h.ns k hk).2), ownsRow_chg h.or_ hc (by intro k hk; simpa using (h.nr k hk).2.1), h.ns, h.nr, h.ne, h.hF, h.hm, Nat.lt_of_lt_of_le h.mlt hc.size⟩
/-- a symbol more -/
theorem Lf.sym {w w2 : World} {H0 F m x : Nat} {P : List (ByteArray × Nat)} {Rs : List Rl} {vs vr v' : Value} {t : ByteArray} (h : Lf w H0 F m P Rs vs vr) (h1 : w2.ownsRow H0 25 1 v' (P.length + 1 + 1) (symC P ++ [.int .u32 (x : Int)])) (h2 : w.grownBy w2 vs.ownBlock)
    (h3 : ∀ g, v'.ownBlock = some g → vs.ownBlock = some g ∨ w.heap.size ≤ g) : Lf (w2.setCell ⟨F, 3, none⟩ v') H0 F m (P ++ [(t, x)]) Rs v' vr ∧ Chg (F :: vs.ownBlock.toList) w (w2.setCell ⟨F, 3, none⟩ v') := by
  have hc := grown_chg h2
  have hn : ∀ g, v'.ownBlock = some g → g ≠ F ∧ g ≠ m := fun g hg => by
    rcases h3 g hg with e | e
    · exact h.ns g e
    · exact ⟨by have := row_lt h.row; omega, by have := h.mlt; omega⟩
  have hFs : F ∉ vs.ownBlock.toList := by rw [Option.mem_toList]; intro e; exact (h.ns F e).1 rfl
  have hs : Chg [F] w2 (w2.setCell ⟨F, 3, none⟩ v') := (Chg.refl [F] w2).setCell (.inl (by simp)) _
  have hr2 := (hc.row (row_lt h.row) hFs).trans h.row
  refine ⟨⟨by rw [row_setCell_same, hr2]; rfl, ?_, ?_, hn, ?_, h.ne, h.hF, h.hm, Nat.lt_of_lt_of_le h.mlt (Nat.le_trans hc.size hs.size)⟩, ?_⟩
  · rw [List.length_append, symC_app]
    exact ownsRow_chg h1 hs (by intro k hk; simpa using (hn k hk).1)
  · exact ownsRow_chg (ownsRow_chg h.or_ hc (by intro k hk e; rw [Option.mem_toList] at e; exact (h.nr k hk).2.2 e)) hs (by intro k hk; simpa using (h.nr k hk).1)
  · intro g hg
    refine ⟨(h.nr g hg).1, (h.nr g hg).2.1, fun e => ?_⟩
    rcases h3 g e with e2 | e2
    · exact (h.nr g hg).2.2 e2
    · have := (h.or_.lt g hg).2; omega
  · exact ⟨hs.os.trans hc.os, hs.tape.trans hc.tape, hs.output.trans hc.output, Nat.le_trans hc.size hs.size, fun k hk he => by
      rw [List.mem_cons, not_or] at he
      exact (hs.block k (Nat.lt_of_lt_of_le hk hc.size) (by simpa using he.1)).trans (hc.block k hk he.2)⟩
/-- a relocation more -/
theorem Lf.rel {w w2 : World} {H0 F m : Nat} {P : List (ByteArray × Nat)} {Rs : List Rl} {vs vr v' : Value} {r : Rl} (h : Lf w H0 F m P Rs vs vr) (h1 : w2.ownsRow H0 44 4 v' (Rs.length + 1) (Rs.flatMap RlC ++ RlC r)) (h2 : w.grownBy w2 vr.ownBlock)
    (h3 : ∀ g, v'.ownBlock = some g → vr.ownBlock = some g ∨ w.heap.size ≤ g) : Lf (w2.setCell ⟨F, 2, none⟩ v') H0 F m P (Rs ++ [r]) vs v' ∧ Chg (F :: vr.ownBlock.toList) w (w2.setCell ⟨F, 2, none⟩ v') := by
  have hc := grown_chg h2
  have hn : ∀ g, v'.ownBlock = some g → g ≠ F ∧ g ≠ m ∧ vs.ownBlock ≠ some g := fun g hg => by
    rcases h3 g hg with e | e
    · exact h.nr g e
    · exact ⟨by have := row_lt h.row; omega, by have := h.mlt; omega, fun e2 => by have := (h.os.lt g e2).2; omega⟩
  have hFs : F ∉ vr.ownBlock.toList := by rw [Option.mem_toList]; intro e; exact (h.nr F e).1 rfl
  have hs : Chg [F] w2 (w2.setCell ⟨F, 2, none⟩ v') := (Chg.refl [F] w2).setCell (.inl (by simp)) _
  have hr2 := (hc.row (row_lt h.row) hFs).trans h.row
  refine ⟨⟨by rw [row_setCell_same, hr2]; rfl, ?_, ?_, h.ns, hn, h.ne, h.hF, h.hm, Nat.lt_of_lt_of_le h.mlt (Nat.le_trans hc.size hs.size)⟩, ?_⟩
  · exact ownsRow_chg (ownsRow_chg h.os hc (by intro k hk e; rw [Option.mem_toList] at e; exact (h.nr k e).2.2 hk)) hs (by intro k hk; simpa using (h.ns k hk).1)
  · rw [List.length_append, List.flatMap_append]
    simpa using ownsRow_chg h1 hs (by intro k hk; simpa using (hn k hk).1)
  · exact ⟨hs.os.trans hc.os, hs.tape.trans hc.tape, hs.output.trans hc.output, Nat.le_trans hc.size hs.size, fun k hk he => by
      rw [List.mem_cons, not_or] at he
      exact (hs.block k (Nat.lt_of_lt_of_le hk hc.size) (by simpa using he.1)).trans (hc.block k hk he.2)⟩
/-- what grew is newer than V: V's own is as it was -/
theorem chg_newer {V w w' : World} {E : List Nat} (h : Chg [] V w) (hc : Chg E w w') (hE : ∀ k ∈ E, V.heap.size ≤ k) : Chg [] V w' :=
  ⟨hc.os.trans h.os, hc.tape.trans h.tape, hc.output.trans h.output, Nat.le_trans h.size hc.size, fun k hk _ => (hc.block k (Nat.lt_of_lt_of_le hk h.size) (fun e => by have := hE k e; omega)).trans (h.block k hk (by simp))⟩
end Go.Proofs.L
