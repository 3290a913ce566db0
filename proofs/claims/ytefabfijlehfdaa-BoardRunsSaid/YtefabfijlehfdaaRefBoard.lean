/- Proved here: lemmas and contracts (RefBoard) for the laws of this seat, for all values of the stated types; no further condition. -/
import Derived.Test.YtefabfijlehfdaaOwnWalk
open Go Go.RowKit Go.Lib
namespace Go.Proofs.L
theorem ret_i' {k : IntKind} {a b : Int} (h : a = b) : Ending.returned (.int k a) = .returned (.int k b) := by rw [h]
def whoC (L : List (Int × ByteArray)) : List Value := L.map fun l => .int .i64 l.1
def txtC (L : List (Int × ByteArray)) : List Value := L.map fun l => .string l.2
/-- what the reference's board is in memory -/
structure Rf (w : World) (bb ib : Nat) (wv tv : Value) (L : List (Int × ByteArray)) (I : List ByteArray) : Prop where
  row : w.row? bb = some #[wv, tv, .slice (some ⟨ib, 0, none⟩) I.length I.length]
  ins : w.row? ib = some (strC I)
  own : w.ownsRow 0 3 1 wv L.length (whoC L)
  ownT : w.ownsRow 0 9 1 tv L.length (txtC L)
  ne : bb ≠ ib
  apart : ∀ k, wv.ownBlock = some k → k ≠ bb ∧ k ≠ ib ∧ tv.ownBlock ≠ some k
  apartT : ∀ k, tv.ownBlock = some k → k ≠ bb ∧ k ≠ ib
  len1 : 1 ≤ I.length
  len4 : I.length ≤ 4
  small : ∀ s ∈ I, s.size ≤ 64
  texts : ∀ l ∈ L, 1 ≤ l.2.size ∧ l.2.size ≤ 64
  fits : used L ≤ 256
def fpR (bb ib : Nat) (wv tv : Value) : List Nat := bb :: ib :: (wv.ownBlock.toList ++ tv.ownBlock.toList)
theorem Rf.lt {w bb ib wv tv L I} (h : Rf w bb ib wv tv L I) : ∀ k ∈ fpR bb ib wv tv, k < w.heap.size := by
  intro k hk
  simp only [fpR, List.mem_cons, List.mem_append] at hk
  rcases hk with rfl | rfl | hk | hk
  · exact row_lt h.row
  · exact row_lt h.ins
  · exact (h.own.lt k (by simpa using hk)).2
  · exact (h.ownT.lt k (by simpa using hk)).2
theorem Rf.keep {E w w' bb ib wv tv L I} (h : Rf w bb ib wv tv L I) (hc : Chg E w w') (hE : ∀ k ∈ fpR bb ib wv tv, k ∉ E) : Rf w' bb ib wv tv L I :=
  { h with
    row := by rw [hc.row (row_lt h.row) (hE bb (by simp [fpR]))]; exact h.row
    ins := by rw [hc.row (row_lt h.ins) (hE ib (by simp [fpR]))]; exact h.ins
    own := ownsRow_chg h.own hc (fun k hk => hE k (by simp [fpR, hk]))
    ownT := ownsRow_chg h.ownT hc (fun k hk => hE k (by simp [fpR, hk])) }
theorem Rf.c0 {w bb ib wv tv L I} (h : Rf w bb ib wv tv L I) : w.cell? ⟨bb, 0, none⟩ = some wv := by rw [row_cell h.row]; rfl
theorem Rf.c1 {w bb ib wv tv L I} (h : Rf w bb ib wv tv L I) : w.cell? ⟨bb, 1, none⟩ = some tv := by rw [row_cell h.row]; rfl
theorem Rf.c2 {w bb ib wv tv L I} (h : Rf w bb ib wv tv L I) : w.cell? ⟨bb, 2, none⟩ = some (.slice (some ⟨ib, 0, none⟩) I.length I.length) := by rw [row_cell h.row]; rfl
theorem Rf.ci {w bb ib wv tv L I} (h : Rf w bb ib wv tv L I) (i : Nat) (hi : i < I.length) : w.cell? ⟨ib, i, none⟩ = some (.string I[i]) := by rw [row_cell h.ins, strC_get _ _ hi]
theorem Rf.cf {w bb ib wv tv L I} (h : Rf w bb ib wv tv L I) (i : Nat) : w.frozen? ⟨ib, i, none⟩ = false := row_free h.ins i
theorem Rf.cfb {w bb ib wv tv L I} (h : Rf w bb ib wv tv L I) (i : Nat) : w.frozen? ⟨bb, i, none⟩ = false := row_free h.row i
theorem Rf.set {w bb ib wv tv L I} (h : Rf w bb ib wv tv L I) (k : Nat) (t : ByteArray) (ht : t.size ≤ 64) : Rf (w.setCell ⟨ib, k, none⟩ (.string t)) bb ib wv tv L (I.set k t) := by
  have hc := chg_set w ib k (.string t)
  refine ⟨?_, ?_, ownsRow_chg h.own hc (fun j hj => by simpa using (h.apart j hj).2.1), ownsRow_chg h.ownT hc (fun j hj => by simpa using (h.apartT j hj).2), h.ne, h.apart, h.apartT, by simpa using h.len1, by simpa using h.len4, ?_, h.texts, h.fits⟩
  · rw [row_setCell, if_neg h.ne, h.row]; simp
  · rw [row_setCell, if_pos rfl, h.ins]; simp [strC_set]
  · intro s hs
    rcases List.mem_or_eq_of_mem_set hs with hs | rfl
    · exact h.small s hs
    · exact ht
theorem Rf.drew {w bb ib wv tv L I} (h : Rf w bb ib wv tv L I) : Rf w.drew bb ib wv tv L I := h.keep (E := []) (Chg.refl _ _).drew (fun _ _ => by simp)
set_option maxRecDepth 100000 in
theorem used_any {w bb ib wv tv L I} (h : Rf w bb ib wv tv L I) : Calls Try.prog 19 #[.pointer (some ⟨bb, 0, none⟩)] w fun e w' => e = .returned (.int .i64 (used L : Int)) ∧ w' = w := by
  have c1 := h.c1
  have hl := len_used L h.texts
  have hf := h.fits
  have hsum : ∀ k, used (L.take k) ≤ used L := fun k => by
    have := congrArg used (List.take_append_drop k L)
    simp only [used, List.map_append, List.sum_append] at this ⊢
    omega
  have HS := Lib.hid hsum
  clear hsum
  rcases h.ownT.2 with ⟨hv, hn⟩ | ⟨g, cap, cur, hv, -, hg, -⟩
  · have hL : L = [] := List.eq_nil_of_length_eq_zero hn
    subst hL hv
    clear h hl hf hn
    go_enter Try.func19, Try.ntmps19
    go_wp2
    go_loopw [3, 4] (fun n i wr => n = .int .i64 0 ∧ i = .int .i64 0 ∧ wr = w) (fun _ _ _ => 0)
    case atStart => exact ⟨rfl, rfl, rfl⟩
    case round =>
      obtain ⟨rfl, rfl, rfl⟩ := hrel
      go_wp2
      go_ret
      exact ⟨rfl, rfl⟩
  · have hc := h.ownT.cells (g := g) (by rw [hv]; rfl)
    rw [hv] at c1
    have HC := Lib.hid hc
    obtain ⟨n, hn⟩ : ∃ n, n = L.length := ⟨_, rfl⟩
    have HL := Lib.hid hn
    rw [← hn] at c1 hl
    clear h hc hg hn
    go_enter Try.func19, Try.ntmps19
    go_wp2
    go_loopw [3, 4] (fun s i wr => ∃ k : Nat, k ≤ n ∧ i = .int .i64 k ∧ s = .int .i64 (used (L.take k) : Int) ∧ wr = w) (fun _ i _ => n - (intOf i).toNat)
    case atStart => exact ⟨0, Nat.zero_le _, rfl, rfl, rfl⟩
    case round =>
      obtain ⟨k, hk, rfl, rfl, rfl⟩ := hrel
      by_cases hlt : k < n
      · have hkL : k < L.length := by rw [← HL.out]; exact hlt
        have ct : wr.cell? ⟨g, k, none⟩ = some (.string L[k].2) := by
          have := HC.out k (.string L[k].2) (by simp [txtC, hkL])
          rwa [show (⟨g, 0, none⟩ : Addr).add k = ⟨g, k, none⟩ from by unfold Addr.add; split <;> simp_all] at this
        have hs : used (L.take (k + 1)) = used (L.take k) + L[k].2.size := by
          rw [List.take_succ_eq_append_getElem hkL, used_snoc]
        have h1 := HS.out (k + 1)
        obtain ⟨t, ht⟩ : ∃ t, t = L[k].2 := ⟨_, rfl⟩
        rw [← ht] at ct hs
        obtain ⟨a, ha⟩ : ∃ a, a = used (L.take k) := ⟨_, rfl⟩
        obtain ⟨b, hb⟩ : ∃ b, b = used (L.take (k + 1)) := ⟨_, rfl⟩
        rw [← ha, ← hb] at hs
        rw [← hb] at h1
        rw [← ha]
        have HB := Lib.hid hb
        have HS2 := Lib.hid hs
        have hb2 : a + t.size ≤ 256 := by omega
        clear ha hb hs ht hkL h1
        go_wp2
        go_roundw
        case rel => exact ⟨k + 1, hlt, by go_num, by rw [← HB.out, HS2.out]; go_num, by first | rfl | trivial⟩
        case measure => simp [intOf]; omega
      · obtain rfl : k = n := by omega
        go_wp2
        go_ret
        exact ⟨ret_i' (by rw [HL.out, List.take_length]), rfl⟩
end Go.Proofs.L
