/- Proved here: lemmas and contracts (BothFeed) for the laws of this seat, for all values of the stated types; no further condition. -/
import Derived.Test.YtefabfijlehfdaaBoth
open Go Go.RowKit Go.Lib
namespace Go.Proofs.L
def FeedP (N M n bb rb : Nat) (i : Int) (t : ByteArray) (w : World) (e : Ending) (w1 : World) : Prop := ∃ r : Int, e = .returned (.int .i64 r) ∧ FrameP N M w w1 ∧
  Calls Try.prog 14 #[.pointer (some ⟨rb, 0, none⟩), .int .i64 i, .string t] w1 fun e' w2 => e' = .returned (.int .i64 r) ∧ BothE N w2.heap.size w2 n bb rb ∧ FrameP N M w w2
theorem feed_both {N M n bb rb : Nat} {w : World} (h : BothE N M w n bb rb) (i : Int) (t : ByteArray) (ht : t.size ≤ 140737488355328) : Calls Try.prog 8 #[.pointer (some ⟨bb, 0, none⟩), .int .i64 i, .string t] w (FeedP N M n bb rb i t w) := by
  have h0 := h
  obtain ⟨ib, rib, lv, wv, tv, L, I, hB, hn1, hn2⟩ := h
  cases hi : inB i I.length with
  | false =>
    refine (feed_out hB.b i t hi).mono ?_
    rintro e w1 ⟨rfl, rfl⟩
    refine ⟨_, rfl, FrameP.refl _ _ _, (rfeed_out hB.r i t hi).mono ?_⟩
    rintro e w2 ⟨rfl, rfl⟩
    exact ⟨rfl, h0.up, FrameP.refl _ _ _⟩
  | true =>
    have hi' : 0 ≤ i ∧ i < I.length := by simpa [inB] using hi
    obtain ⟨k, rfl⟩ := Int.eq_ofNat_of_zero_le hi'.1
    have hk : k < I.length := by omega
    have hsm := hB.b.small I[k] (List.getElem_mem hk)
    by_cases hf : 64 < I[k].size + t.size
    · refine (feed_full' hB.b k hk t (by omega) hf).mono ?_
      rintro e w1 ⟨rfl, rfl⟩
      refine ⟨_, rfl, FrameP.refl _ _ _, (rfeed_full hB.r k hk t (by omega) hf).mono ?_⟩
      rintro e w2 ⟨rfl, rfl⟩
      exact ⟨rfl, h0.up, FrameP.refl _ _ _⟩
    · refine (feed_ok hB.b k hk t (by omega)).mono ?_
      rintro e w1 ⟨rfl, hb1, hc1⟩
      have f1 : ∀ j ∈ [ib], j ∈ fpB bb ib lv := fun j hj => by simp [fpB] at hj ⊢; simp [hj]
      have f2 : ∀ j ∈ [rib], j ∈ fpR rb rib wv tv := fun j hj => by simp [fpR] at hj ⊢; simp [hj]
      have hr1 : Rf w1 rb rib wv tv L I := hB.r.keep hc1 (fun j hj hm => hB.apart j (f1 j hm) hj)
      refine ⟨_, rfl, ⟨_, hc1, fun j hj => hn1 j (f1 j hj)⟩, (rfeed_ok hr1 k hk t (by omega)).mono ?_⟩
      rintro e w2 ⟨rfl, hr2, hc2⟩
      have hb2 : Bd w2 bb ib lv L (I.set k (I[k] ++ t)) := hb1.keep hc2 (fun j hj hm => hB.apart j hj (f2 j hm))
      refine ⟨rfl, ⟨ib, rib, lv, wv, tv, L, _, ⟨hb2, hr2, by simpa using hB.len, hB.apart⟩, fun j hj => ⟨(hn1 j hj).1, hb2.lt j hj⟩, fun j hj => ⟨(hn2 j hj).1, hr2.lt j hj⟩⟩, ?_⟩
      exact FrameP.trans ⟨_, hc1, fun j hj => hn1 j (f1 j hj)⟩ ⟨_, hc2, fun j hj => hn2 j (f2 j hj)⟩
def HearP (N M n bb rb : Nat) (i : Int) (w : World) (e : Ending) (w1 : World) : Prop := ∃ (c : Nat) (r : Int), c < 256 ∧ e = .returned (.tuple #[.int .u8 (c : Int), .int .i64 r]) ∧ FrameP N M w w1 ∧
  Calls Try.prog 15 #[.pointer (some ⟨rb, 0, none⟩), .int .i64 i] w1 fun e' w2 => e' = .returned (.tuple #[.int .i64 (c : Int), .int .i64 r]) ∧ BothE N w2.heap.size w2 n bb rb ∧ FrameP N M w w2
theorem hear_both {N M n bb rb : Nat} {w : World} (h : BothE N M w n bb rb) (i : Int) : Calls Try.prog 11 #[.pointer (some ⟨bb, 0, none⟩), .int .i64 i] w (HearP N M n bb rb i w) := by
  have h0 := h
  obtain ⟨ib, rib, lv, wv, tv, L, I, hB, hn1, hn2⟩ := h
  cases hi : inB i I.length with
  | false =>
    refine (hear_out hB.b i hi).mono ?_
    rintro e w1 ⟨rfl, rfl⟩
    refine ⟨0, _, by decide, rfl, FrameP.refl _ _ _, (rhear_out hB.r i hi).mono ?_⟩
    rintro e w2 ⟨rfl, rfl⟩
    exact ⟨rfl, h0.up, FrameP.refl _ _ _⟩
  | true =>
    have hi' : 0 ≤ i ∧ i < I.length := by simpa [inB] using hi
    obtain ⟨k, rfl⟩ := Int.eq_ofNat_of_zero_le hi'.1
    have hk : k < I.length := by omega
    by_cases hz : I[k].size = 0
    · refine (hear_empty hB.b k hk hz).mono ?_
      rintro e w1 ⟨rfl, rfl⟩
      refine ⟨0, _, by decide, rfl, FrameP.refl _ _ _, (rhear_empty hB.r k hk hz).mono ?_⟩
      rintro e w2 ⟨rfl, rfl⟩
      exact ⟨rfl, h0.up, FrameP.refl _ _ _⟩
    · have hz' : 0 < I[k].size := by omega
      refine (hear_ok hB.b k hk hz').mono ?_
      rintro e w1 ⟨rfl, hb1, hc1⟩
      have f1 : ∀ j ∈ [ib], j ∈ fpB bb ib lv := fun j hj => by simp [fpB] at hj ⊢; simp [hj]
      have f2 : ∀ j ∈ [rib], j ∈ fpR rb rib wv tv := fun j hj => by simp [fpR] at hj ⊢; simp [hj]
      have hr1 : Rf w1 rb rib wv tv L I := hB.r.keep hc1 (fun j hj hm => hB.apart j (f1 j hm) hj)
      refine ⟨I[k][0].toNat, _, UInt8.toNat_lt _, rfl, ⟨_, hc1, fun j hj => hn1 j (f1 j hj)⟩, (rhear_ok hr1 k hk hz').mono ?_⟩
      rintro e w2 ⟨rfl, hr2, hc2⟩
      have hb2 := hb1.keep hc2 (fun j hj hm => hB.apart j hj (f2 j hm))
      refine ⟨rfl, ⟨ib, rib, lv, wv, tv, L, _, ⟨hb2, hr2, by simpa using hB.len, hB.apart⟩, fun j hj => ⟨(hn1 j hj).1, hb2.lt j hj⟩, fun j hj => ⟨(hn2 j hj).1, hr2.lt j hj⟩⟩, ?_⟩
      exact FrameP.trans ⟨_, hc1, fun j hj => hn1 j (f1 j hj)⟩ ⟨_, hc2, fun j hj => hn2 j (f2 j hj)⟩
def ClearP (N M n bb rb : Nat) (w : World) (e : Ending) (w1 : World) : Prop := e = .returned (.tuple #[]) ∧ FrameP N M w w1 ∧ (∃ v0 v1, w1.cell? ⟨rb, 0, none⟩ = some v0 ∧ w1.cell? ⟨rb, 1, none⟩ = some v1) ∧ (∀ k, w1.frozen? ⟨rb, k, none⟩ = false) ∧
  BothE N w1.heap.size ((w1.setCell ⟨rb, 0, none⟩ (.slice none 0 0)).setCell ⟨rb, 1, none⟩ (.slice none 0 0)) n bb rb ∧ FrameP N M w ((w1.setCell ⟨rb, 0, none⟩ (.slice none 0 0)).setCell ⟨rb, 1, none⟩ (.slice none 0 0))
theorem clear_both {N M n bb rb : Nat} {w : World} (h : BothE N M w n bb rb) : Calls Try.prog 16 #[.pointer (some ⟨bb, 0, none⟩)] w (ClearP N M n bb rb w) := by
  obtain ⟨ib, rib, lv, wv, tv, L, I, hB, hn1, hn2⟩ := h
  refine (clear_any hB.b).mono ?_
  rintro e w1 ⟨rfl, hb1, hc1⟩
  have f1 : ∀ j ∈ [bb], j ∈ fpB bb ib lv := fun j hj => by simp [fpB] at hj ⊢; simp [hj]
  have hr1 : Rf w1 rb rib wv tv L I := hB.r.keep hc1 (fun j hj hm => hB.apart j (f1 j hm) hj)
  have hc2 : Chg [rb] w1 ((w1.setCell ⟨rb, 0, none⟩ (.slice none 0 0)).setCell ⟨rb, 1, none⟩ (.slice none 0 0)) := (chg_set _ _ _ _).setCell (Or.inl (by simp)) _
  have hne : rib ≠ rb := fun e => hr1.ne e.symm
  have hr2 : Rf ((w1.setCell ⟨rb, 0, none⟩ (.slice none 0 0)).setCell ⟨rb, 1, none⟩ (.slice none 0 0)) rb rib (.slice none 0 0) (.slice none 0 0) [] I := by
    refine ⟨?_, ?_, World.ownsRow_nil _ _ _ _, World.ownsRow_nil _ _ _ _, hr1.ne, fun k hk => by simp [Value.ownBlock] at hk, fun k hk => by simp [Value.ownBlock] at hk, hr1.len1, hr1.len4, hr1.small, fun l hl => by simp at hl, by simp [used]⟩
    · rw [row_setCell, if_pos rfl, row_setCell, if_pos rfl, hr1.row]; simp
    · rw [row_setCell, if_neg hne, row_setCell, if_neg hne, hr1.ins]
  have hb2 := hb1.keep hc2 (fun j hj hm => by
    have hj' : j ∈ fpB bb ib lv := by simp [fpB, Value.ownBlock] at hj ⊢; rcases hj with hj | hj <;> simp [hj]
    exact hB.apart j hj' (by simp at hm; simp [fpR, hm]))
  refine ⟨rfl, ⟨_, hc1, fun j hj => hn1 j (f1 j hj)⟩, ⟨_, _, hr1.c0, hr1.c1⟩, hr1.cfb, ⟨ib, rib, _, _, _, [], I, ⟨hb2, hr2, hB.len, ?_⟩, ?_, ?_⟩, ?_⟩
  · intro j hj hm
    have hj' : j ∈ fpB bb ib lv := by simp [fpB, Value.ownBlock] at hj ⊢; rcases hj with hj | hj <;> simp [hj]
    have hm' : j ∈ fpR rb rib wv tv := by simp [fpR, Value.ownBlock] at hm ⊢; rcases hm with hm | hm <;> simp [hm]
    exact hB.apart j hj' hm'
  · intro j hj
    have hj' : j ∈ fpB bb ib lv := by simp [fpB, Value.ownBlock] at hj ⊢; rcases hj with hj | hj <;> simp [hj]
    exact ⟨(hn1 j hj').1, hb1.lt j hj⟩
  · intro j hm
    have hm' : j ∈ fpR rb rib wv tv := by simp [fpR, Value.ownBlock] at hm ⊢; rcases hm with hm | hm <;> simp [hm]
    exact ⟨(hn2 j hm').1, hr1.lt j hm'⟩
  · exact FrameP.trans ⟨_, hc1, fun j hj => hn1 j (f1 j hj)⟩ ⟨_, hc2, fun j hj => hn2 j (by simp at hj; simp [fpR, hj])⟩
end Go.Proofs.L
