/- Proved here: lemmas and contracts (Lk15) for the laws of this seat, for all values of the stated types; no further condition. -/
import Derived.Test.YtjbplncpcgfaoaaLk14
open Go Go.RowKit Go.Lib Go.Maps
namespace Go.Proofs.L
attribute [local irreducible] wpT
/-! several growing slices beside a box -/
structure OE where
  (t : TypeId) (s : Nat) (v : Value) (n : Nat) (xs : List Value)
structure OwnF (w : World) (H0 F n : Nat) (f : Nat → OE) : Prop where
  own : ∀ i, i < n → w.ownsRow H0 (f i).t (f i).s (f i).v (f i).n (f i).xs
  ne : ∀ i, i < n → ∀ g, (f i).v.ownBlock = some g → g ≠ F ∧ ∀ j, j < n → j ≠ i → (f j).v.ownBlock ≠ some g
  lt : F < w.heap.size
theorem OwnF.chg {E : List Nat} {w w' : World} {H0 F n : Nat} {f : Nat → OE} (h : OwnF w H0 F n f) (hc : Chg E w w') (hE : ∀ i, i < n → ∀ g, (f i).v.ownBlock = some g → g ∉ E) : OwnF w' H0 F n f :=
  ⟨fun i hi => ownsRow_chg (h.own i hi) hc (hE i hi), h.ne, Nat.lt_of_lt_of_le h.lt hc.size⟩
theorem OwnF.keep {w w' : World} {H0 F n : Nat} {f : Nat → OE} (h : OwnF w H0 F n f) (hc : Chg [] w w') : OwnF w' H0 F n f := h.chg hc (fun _ _ _ _ => by simp)
theorem OwnF.set {w : World} {H0 F n : Nat} {f : Nat → OE} (h : OwnF w H0 F n f) (j : Nat) (u : Value) : OwnF (w.setCell ⟨F, j, none⟩ u) H0 F n f :=
  h.chg (E := [F]) ((Chg.refl [F] w).setCell (.inl (by simp)) _) (fun i hi g hg => by simpa using (h.ne i hi g hg).1)
theorem OwnF.step {w w2 : World} {H0 F n k : Nat} {f f' : Nat → OE} (h : OwnF w H0 F n f) (hk : k < n) (hff : ∀ i, i < n → i ≠ k → f' i = f i) (h1 : w2.ownsRow H0 (f' k).t (f' k).s (f' k).v (f' k).n (f' k).xs)
    (h2 : w.grownBy w2 (f k).v.ownBlock) (h3 : ∀ g, (f' k).v.ownBlock = some g → (f k).v.ownBlock = some g ∨ w.heap.size ≤ g) : OwnF w2 H0 F n f' ∧ w2.row? F = w.row? F ∧ Chg (f k).v.ownBlock.toList w w2 := by
  have hc := grown_chg h2
  have hn : ∀ g, (f k).v.ownBlock = some g → g ≠ F := fun g hg => (h.ne k hk g hg).1
  refine ⟨⟨fun i hi => ?_, fun i hi g hg => ?_, Nat.lt_of_lt_of_le h.lt hc.size⟩, ?_, hc⟩
  · by_cases e : i = k
    · subst e; exact h1
    · rw [hff i hi e]
      exact ownsRow_chg (h.own i hi) hc (fun g hg hm => (h.ne i hi g hg).2 k hk (fun e2 => e e2.symm) (Option.mem_toList.1 hm))
  · by_cases e : i = k
    · subst e
      refine ⟨?_, fun j hj hji => ?_⟩
      · rcases h3 g hg with e | e
        · exact hn g e
        · have := h.lt; omega
      · rw [hff j hj hji]
        intro e2
        rcases h3 g hg with e | e
        · exact (h.ne _ hk g e).2 j hj hji e2
        · have := ((h.own j hj).lt g e2).2; omega
    · rw [hff i hi e] at hg
      refine ⟨(h.ne i hi g hg).1, fun j hj hji => ?_⟩
      by_cases e2 : j = k
      · subst e2
        intro e3
        rcases h3 g e3 with e4 | e4
        · exact (h.ne i hi g hg).2 _ hk hji e4
        · have := ((h.own i hi).lt g hg).2; omega
      · rw [hff j hj e2]
        exact (h.ne i hi g hg).2 j hj hji
  · exact hc.row h.lt (fun hm => hn F (Option.mem_toList.1 hm) rfl)
theorem OwnF.ge {w : World} {H0 F n : Nat} {f : Nat → OE} (h : OwnF w H0 F n f) {i : Nat} (hi : i < n) : ∀ g, (f i).v.ownBlock = some g → H0 ≤ g := fun g hg => ((h.own i hi).lt g hg).1
/-! the reference's file under way -/
def zR : Array Value := #[.int .i64 0, .slice none 0 0, .slice none 0 0, .slice none 0 0, .slice none 0 0, .int .i64 0, .int .i64 0]
theorem a38 : aggT Try.prog 38 7 := aggT_of (by kernel_rfl)
theorem a45 : aggT Try.prog 45 4 := aggT_of (by kernel_rfl)
theorem info9 : (Try.prog.info? 9).map (fun i => (i.zero, i.size, i.bytes)) = some (some (.string ⟨#[]⟩), 1, 16) := by kernel_rfl
theorem info3 : (Try.prog.info? 3).map (fun i => (i.zero, i.size, i.bytes)) = some (some (.int .i64 0), 1, 8) := by kernel_rfl
theorem info45 : (Try.prog.info? 45).map (fun i => (i.zero, i.size, i.bytes)) = some (some (.agg #[.int .i64 0, .int .i64 0, .int .i64 0, .int .i64 0]), 4, 32) := by kernel_rfl
def symR (P : List (ByteArray × Nat)) : List Value := (0 :: P.map (·.2)).map fun x : Nat => Value.int .i64 (x : Int)
def nmsV (P : List (ByteArray × Nat)) : List Value := (nmsC P).map Value.string
def RkC (r : Rl) : List Value := [.int .i64 (r.at_ : Int), .int .i64 r.ty, .int .i64 (r.sym : Int), .int .i64 (r.add : Int)]
theorem symR_app (P : List (ByteArray × Nat)) (t : ByteArray) (x : Nat) : symR (P ++ [(t, x)]) = symR P ++ [.int .i64 (x : Int)] := by
  unfold symR; simp
theorem nmsV_app (P : List (ByteArray × Nat)) (t : ByteArray) (x : Nat) : nmsV (P ++ [(t, x)]) = nmsV P ++ [.string t] := by
  unfold nmsV nmsC; simp
def st5 (vn vs vr vc vd : Value) (Pn Ps : List (ByteArray × Nat)) (Rs : List Rl) (C D : List Nat) : Nat → OE
  | 0 => ⟨9, 1, vn, Pn.length + 1, nmsV Pn⟩
  | 1 => ⟨3, 1, vs, Ps.length + 1, symR Ps⟩
  | 2 => ⟨45, 4, vr, Rs.length, Rs.flatMap RkC⟩
  | 3 => ⟨5, 1, vc, C.length, u8L C⟩
  | _ => ⟨5, 1, vd, D.length, u8L D⟩
structure Lg (w : World) (H0 F x at_ l : Nat) (vn vs vr vc vd : Value) (Pn Ps : List (ByteArray × Nat)) (Rs : List Rl) (C D : List Nat) : Prop where
  row : w.row? F = some #[.int .i64 (x : Int), vs, vr, vc, vd, .int .i64 (at_ : Int), .int .i64 (l : Int)]
  own : OwnF w H0 F 5 (st5 vn vs vr vc vd Pn Ps Rs C D)
  hF : H0 ≤ F
theorem Lg.keep {w w' : World} {H0 F x at_ l : Nat} {vn vs vr vc vd : Value} {Pn Ps : List (ByteArray × Nat)} {Rs : List Rl} {C D : List Nat} (h : Lg w H0 F x at_ l vn vs vr vc vd Pn Ps Rs C D) (hc : Chg [] w w') : Lg w' H0 F x at_ l vn vs vr vc vd Pn Ps Rs C D :=
  ⟨(hc.row (row_lt h.row) (by simp)).trans h.row, h.own.keep hc, h.hF⟩
theorem five (i : Nat) (h : i < 5) : i = 0 ∨ i = 1 ∨ i = 2 ∨ i = 3 ∨ i = 4 := by omega
theorem chg_cons {F : Nat} {E : List Nat} {w w1 w2 : World} (h1 : Chg E w w1) (h2 : Chg [F] w1 w2) : Chg (F :: E) w w2 :=
  ⟨h2.os.trans h1.os, h2.tape.trans h1.tape, h2.output.trans h1.output, Nat.le_trans h1.size h2.size, fun k hk he => by
    rw [List.mem_cons, not_or] at he
    exact (h2.block k (Nat.lt_of_lt_of_le hk h1.size) (by simpa using he.1)).trans (h1.block k hk he.2)⟩
theorem set_chg (w : World) (F j : Nat) (u : Value) : Chg [F] w (w.setCell ⟨F, j, none⟩ u) := (Chg.refl [F] w).setCell (.inl (by simp)) _
section
variable {w w2 : World} {H0 F x at_ l : Nat} {vn vs vr vc vd v' : Value} {Pn Ps : List (ByteArray × Nat)} {Rs : List Rl} {C D : List Nat}
/-- a name more -/
theorem Lg.name (h : Lg w H0 F x at_ l vn vs vr vc vd Pn Ps Rs C D) {t : ByteArray} (y : Nat) (h1 : w2.ownsRow H0 9 1 v' (Pn.length + 1 + 1) (nmsV Pn ++ [.string t])) (h2 : w.grownBy w2 vn.ownBlock) (h3 : ∀ g, v'.ownBlock = some g → vn.ownBlock = some g ∨ w.heap.size ≤ g) :
    Lg w2 H0 F x at_ l v' vs vr vc vd (Pn ++ [(t, y)]) Ps Rs C D ∧ Chg vn.ownBlock.toList w w2 := by
  obtain ⟨a, b, c⟩ := h.own.step (k := 0) (f' := st5 v' vs vr vc vd (Pn ++ [(t, y)]) Ps Rs C D) (by decide) (fun i hi hn => by rcases five i hi with rfl | rfl | rfl | rfl | rfl <;> first | rfl | exact absurd rfl hn) (by
    show w2.ownsRow H0 9 1 v' ((Pn ++ [(t, y)]).length + 1) (nmsV (Pn ++ [(t, y)]))
    rw [List.length_append, nmsV_app]; exact h1) h2 h3
  exact ⟨⟨b.trans h.row, a, h.hF⟩, c⟩
/-- a symbol more -/
theorem Lg.sym (h : Lg w H0 F x at_ l vn vs vr vc vd Pn Ps Rs C D) (t : ByteArray) {y : Nat} (h1 : w2.ownsRow H0 3 1 v' (Ps.length + 1 + 1) (symR Ps ++ [.int .i64 (y : Int)])) (h2 : w.grownBy w2 vs.ownBlock) (h3 : ∀ g, v'.ownBlock = some g → vs.ownBlock = some g ∨ w.heap.size ≤ g) :
    Lg (w2.setCell ⟨F, 1, none⟩ v') H0 F x at_ l vn v' vr vc vd Pn (Ps ++ [(t, y)]) Rs C D ∧ Chg (F :: vs.ownBlock.toList) w (w2.setCell ⟨F, 1, none⟩ v') := by
  obtain ⟨a, b, c⟩ := h.own.step (k := 1) (f' := st5 vn v' vr vc vd Pn (Ps ++ [(t, y)]) Rs C D) (by decide) (fun i hi hn => by rcases five i hi with rfl | rfl | rfl | rfl | rfl <;> first | rfl | exact absurd rfl hn) (by
    show w2.ownsRow H0 3 1 v' ((Ps ++ [(t, y)]).length + 1) (symR (Ps ++ [(t, y)]))
    rw [List.length_append, symR_app]; exact h1) h2 h3
  exact ⟨⟨by rw [row_setCell_same, b, h.row]; rfl, a.set 1 v', h.hF⟩, chg_cons c (set_chg _ _ _ _)⟩
/-- a relocation more -/
theorem Lg.rel (h : Lg w H0 F x at_ l vn vs vr vc vd Pn Ps Rs C D) {r : Rl} (h1 : w2.ownsRow H0 45 4 v' (Rs.length + 1) (Rs.flatMap RkC ++ RkC r)) (h2 : w.grownBy w2 vr.ownBlock) (h3 : ∀ g, v'.ownBlock = some g → vr.ownBlock = some g ∨ w.heap.size ≤ g) :
    Lg (w2.setCell ⟨F, 2, none⟩ v') H0 F x at_ l vn vs v' vc vd Pn Ps (Rs ++ [r]) C D ∧ Chg (F :: vr.ownBlock.toList) w (w2.setCell ⟨F, 2, none⟩ v') := by
  obtain ⟨a, b, c⟩ := h.own.step (k := 2) (f' := st5 vn vs v' vc vd Pn Ps (Rs ++ [r]) C D) (by decide) (fun i hi hn => by rcases five i hi with rfl | rfl | rfl | rfl | rfl <;> first | rfl | exact absurd rfl hn) (by
    show w2.ownsRow H0 45 4 v' (Rs ++ [r]).length ((Rs ++ [r]).flatMap RkC)
    rw [List.length_append, List.flatMap_append]; simpa using h1) h2 h3
  exact ⟨⟨by rw [row_setCell_same, b, h.row]; rfl, a.set 2 v', h.hF⟩, chg_cons c (set_chg _ _ _ _)⟩
/-- code more -/
theorem Lg.code (h : Lg w H0 F x at_ l vn vs vr vc vd Pn Ps Rs C D) {M : List Nat} {m : Nat} (hm : M.length = m) (h1 : w2.ownsRow H0 5 1 v' (C.length + m) ((C ++ M).map fun x : Nat => Value.int .u8 (x : Int))) (h2 : w.grownBy w2 vc.ownBlock) (h3 : ∀ g, v'.ownBlock = some g → vc.ownBlock = some g ∨ w.heap.size ≤ g) :
    Lg (w2.setCell ⟨F, 3, none⟩ v') H0 F x at_ l vn vs vr v' vd Pn Ps Rs (C ++ M) D ∧ Chg (F :: vc.ownBlock.toList) w (w2.setCell ⟨F, 3, none⟩ v') := by
  obtain ⟨a, b, c⟩ := h.own.step (k := 3) (f' := st5 vn vs vr v' vd Pn Ps Rs (C ++ M) D) (by decide) (fun i hi hn => by rcases five i hi with rfl | rfl | rfl | rfl | rfl <;> first | rfl | exact absurd rfl hn) (by
    show w2.ownsRow H0 5 1 v' (C ++ M).length (u8L (C ++ M))
    rw [List.length_append, hm]; exact h1) h2 h3
  exact ⟨⟨by rw [row_setCell_same, b, h.row]; rfl, a.set 3 v', h.hF⟩, chg_cons c (set_chg _ _ _ _)⟩
/-- data more -/
theorem Lg.data (h : Lg w H0 F x at_ l vn vs vr vc vd Pn Ps Rs C D) {M : List Nat} {m : Nat} (hm : M.length = m) (h1 : w2.ownsRow H0 5 1 v' (D.length + m) ((D ++ M).map fun x : Nat => Value.int .u8 (x : Int))) (h2 : w.grownBy w2 vd.ownBlock) (h3 : ∀ g, v'.ownBlock = some g → vd.ownBlock = some g ∨ w.heap.size ≤ g) :
    Lg (w2.setCell ⟨F, 4, none⟩ v') H0 F x at_ l vn vs vr vc v' Pn Ps Rs C (D ++ M) ∧ Chg (F :: vd.ownBlock.toList) w (w2.setCell ⟨F, 4, none⟩ v') := by
  obtain ⟨a, b, c⟩ := h.own.step (k := 4) (f' := st5 vn vs vr vc v' Pn Ps Rs C (D ++ M)) (by decide) (fun i hi hn => by rcases five i hi with rfl | rfl | rfl | rfl | rfl <;> first | rfl | exact absurd rfl hn) (by
    show w2.ownsRow H0 5 1 v' (D ++ M).length (u8L (D ++ M))
    rw [List.length_append, hm]; exact h1) h2 h3
  exact ⟨⟨by rw [row_setCell_same, b, h.row]; rfl, a.set 4 v', h.hF⟩, chg_cons c (set_chg _ _ _ _)⟩
theorem Lg.setx (h : Lg w H0 F x at_ l vn vs vr vc vd Pn Ps Rs C D) (y : Nat) : Lg (w.setCell ⟨F, 0, none⟩ (.int .i64 (y : Int))) H0 F y at_ l vn vs vr vc vd Pn Ps Rs C D :=
  ⟨by rw [row_setCell_same, h.row]; rfl, h.own.set _ _, h.hF⟩
theorem Lg.seta (h : Lg w H0 F x at_ l vn vs vr vc vd Pn Ps Rs C D) (y : Nat) : Lg (w.setCell ⟨F, 5, none⟩ (.int .i64 (y : Int))) H0 F x y l vn vs vr vc vd Pn Ps Rs C D :=
  ⟨by rw [row_setCell_same, h.row]; rfl, h.own.set _ _, h.hF⟩
theorem Lg.setl (h : Lg w H0 F x at_ l vn vs vr vc vd Pn Ps Rs C D) (y : Nat) : Lg (w.setCell ⟨F, 6, none⟩ (.int .i64 (y : Int))) H0 F x at_ y vn vs vr vc vd Pn Ps Rs C D :=
  ⟨by rw [row_setCell_same, h.row]; rfl, h.own.set _ _, h.hF⟩
end
/-! what it returns -/
def entL (L : List Ob) : Nat := (((symC (defsL L))[numP (defsL L) startB]?).bind fun u => match u with | .int _ x => some x.toNat | _ => none).getD 0
structure FileR (w : World) (base : Nat) (L : List Ob) (v : Array Value) : Prop where
  ex : ∃ vs vr vc vd, v = #[.int .i64 (entL L : Int), vs, vr, vc, vd, .int .i64 (bsF L 1 : Int), .int .i64 ((sumO L 1 L.length + sumO L 2 L.length : Nat) : Int)] ∧
    w.ownsRow base 3 1 vs ((defsL L).length + 1) (symR (defsL L)) ∧ w.ownsRow base 45 4 vr (refsL L).length ((refsL L).flatMap RkC) ∧ w.ownsRow base 5 1 vc (codeB L).length (u8L (codeB L)) ∧ w.ownsRow base 5 1 vd (dataB L).length (u8L (dataB L))
def RlPost (W : World) (L : List Ob) (e : Ending) (w' : World) : Prop := ∃ v, e = .returned (.tuple #[.agg v, .int .i64 (errL L : Int)]) ∧ (errL L ≠ 0 → v = zR) ∧ (errL L = 0 → FileR w' W.heap.size L v) ∧ Chg [] W w'
theorem rpost_bad {W w' : World} {L : List Ob} {k : Nat} (hk : k ≠ 0) (he : errL L = k) (hc : Chg [] W w') : RlPost W L (.returned (.tuple #[.agg zR, .int .i64 (k : Int)])) w' :=
  ⟨zR, by rw [he], fun _ => rfl, fun h => absurd (he.symm.trans h) hk, hc⟩
theorem own_ros {w : World} {S j : Nat} {L : List Ob} {T : List Rb} {g c : Nat} (h : Ol w S (.slice (some ⟨g, 0, none⟩) j c) L T j) (hn : L.length = j) : RosAt w g 0 L T := fun i s t hs ht q u hu => by
  have h1 := h.own
  rw [List.take_of_length_le (by omega)] at h1
  rw [Nat.zero_add]
  refine cellsAt h1 rfl (i * 5 + q) u ?_
  have h2 := flat_at 5 (fun p : Ob × Rb => (roA p.1 p.2).toList) (fun _ => rfl) (L.zip T) [] i (s, t) q u (by rw [List.getElem?_zip_eq_some]; exact ⟨hs, ht⟩) hu
  rw [List.append_nil] at h2
  exact h2
end Go.Proofs.L
