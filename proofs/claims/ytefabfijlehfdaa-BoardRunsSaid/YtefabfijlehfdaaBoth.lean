/- Proved here: lemmas and contracts (Both) for the laws of this seat, for all values of the stated types; no further condition. -/
import Derived.Test.YtefabfijlehfdaaRefSay
open Go Go.RowKit Go.Lib
namespace Go.Proofs.L
/-- both boards, with the same lines and inputs -/
structure Both (w : World) (n bb rb ib rib : Nat) (lv wv tv : Value) (L : List (Int × ByteArray)) (I : List ByteArray) : Prop where
  b : Bd w bb ib lv L I
  r : Rf w rb rib wv tv L I
  len : I.length = n
  apart : ∀ k ∈ fpB bb ib lv, k ∉ fpR rb rib wv tv
/-- the same, its parts unnamed: all blocks from N on -/
def BothE (N M : Nat) (w : World) (n bb rb : Nat) : Prop := ∃ ib rib lv wv tv L I, Both w n bb rb ib rib lv wv tv L I ∧ (∀ k ∈ fpB bb ib lv, N ≤ k ∧ k < M) ∧ (∀ k ∈ fpR rb rib wv tv, N ≤ k ∧ k < M)
/-- what has changed lies in [N, M), or is new -/
def FrameP (N M : Nat) (w w1 : World) : Prop := ∃ fp, Chg fp w w1 ∧ (∀ k ∈ fp, N ≤ k ∧ k < M)
theorem FrameP.refl (N M w) : FrameP N M w w := ⟨[], Chg.refl _ _, by simp⟩
theorem FrameP.drew {N M w w1} (h : FrameP N M w w1) : FrameP N M w w1.drew := by obtain ⟨fp, h1, h2⟩ := h; exact ⟨fp, h1.drew, h2⟩
theorem FrameP.trans {N M a b c} (h : FrameP N M a b) (k : FrameP N M b c) : FrameP N M a c := by
  obtain ⟨fp, h1, h2⟩ := h
  obtain ⟨fq, k1, k2⟩ := k
  exact ⟨fp ++ fq, (h1.weak (fun j hj => by simp [hj])).trans (k1.weak (fun j hj => by simp [hj])), fun j hj => by
    rcases List.mem_append.1 hj with hj | hj
    · exact h2 j hj
    · exact k2 j hj⟩
theorem ba_eq {s t : ByteArray} (h : s.toList = t.toList) : s = t := by
  rw [ByteArray.toList_eq, ByteArray.toList_eq] at h
  exact ByteArray.ext (Array.ext' h)
def SayP (N M n bb rb : Nat) (i : Int) (t : ByteArray) (w : World) (e : Ending) (w1 : World) : Prop := ∃ r : Int, e = .returned (.int .i64 r) ∧ FrameP N M w w1 ∧
  Calls Try.prog 13 #[.pointer (some ⟨rb, 0, none⟩), .int .i64 i, .string t] w1 fun e' w2 => e' = .returned (.int .i64 r) ∧ BothE N w2.heap.size w2 n bb rb ∧ FrameP N M w w2
theorem BothE.up {N M w n bb rb} (h : BothE N M w n bb rb) : BothE N w.heap.size w n bb rb := by
  obtain ⟨ib, rib, lv, wv, tv, L, I, hB, h1, h2⟩ := h
  exact ⟨ib, rib, lv, wv, tv, L, I, hB, fun k hk => ⟨(h1 k hk).1, hB.b.lt k hk⟩, fun k hk => ⟨(h2 k hk).1, hB.r.lt k hk⟩⟩
theorem say_both {N M n bb rb : Nat} {w : World} (h : BothE N M w n bb rb) (i : Int) (t : ByteArray) (hNw : N ≤ w.heap.size) : Calls Try.prog 9 #[.pointer (some ⟨bb, 0, none⟩), .int .i64 i, .string t] w (SayP N M n bb rb i t w) := by
  have h0 := h
  obtain ⟨ib, rib, lv, wv, tv, L, I, hB, hn1, hn2⟩ := h
  have nil := FrameP.refl N M w
  cases hi : inB i I.length with
  | false =>
    refine (say_out hB.b i t hi).mono ?_
    rintro e w1 ⟨rfl, rfl⟩
    refine ⟨_, rfl, nil, (rsay_out hB.r i t hi).mono ?_⟩
    rintro e w2 ⟨rfl, rfl⟩
    exact ⟨rfl, h0.up, nil⟩
  | true =>
    have hi' : 0 ≤ i ∧ i < I.length := by simpa [inB] using hi
    obtain ⟨k, rfl⟩ := Int.eq_ofNat_of_zero_le hi'.1
    have hk : k < I.length := by omega
    by_cases ht : 64 < t.size
    · refine (say_long hB.b k t hi ht).mono ?_
      rintro e w1 ⟨rfl, rfl⟩
      refine ⟨_, rfl, nil, (rsay_long hB.r k t hk ht).mono ?_⟩
      rintro e w2 ⟨rfl, rfl⟩
      exact ⟨rfl, h0.up, nil⟩
    · by_cases hf : 256 < used L + t.size
      · refine (say_full hB.b k t hi (by omega) hf).mono ?_
        rintro e w1 ⟨rfl, rfl⟩
        refine ⟨_, rfl, nil, (rsay_full hB.r k t hk (by omega) hf).mono ?_⟩
        rintro e w2 ⟨rfl, rfl⟩
        exact ⟨rfl, h0.up, nil⟩
      · by_cases hz : t.size = 0
        · refine (say_empty hB.b k t hi hz).mono ?_
          rintro e w1 ⟨rfl, rfl⟩
          refine ⟨_, rfl, nil, (rsay_empty hB.r k t hk hz).mono ?_⟩
          rintro e w2 ⟨rfl, rfl⟩
          exact ⟨rfl, h0.up, nil⟩
        · refine (say_ok hB.b k t hi (by omega) (by omega) (by omega)).mono ?_
          rintro e w1 ⟨rfl, lv', hb1, hc1, hl1⟩
          have f1 : ∀ j ∈ bb :: lv.ownBlock.toList, j ∈ fpB bb ib lv := fun j hj => by simp [fpB] at hj ⊢; rcases hj with hj | hj <;> simp [hj]
          have hr1 : Rf w1 rb rib wv tv L I := hB.r.keep hc1 (fun j hj hm => hB.apart j (f1 j hm) hj)
          refine ⟨_, rfl, ⟨_, hc1, fun j hj => hn1 j (f1 j hj)⟩, (rsay_ok hr1 k t hk (by omega) (by omega) (by omega)).mono ?_⟩
          rintro e w2 ⟨rfl, wv', tv', hr2, hc2, hw2, ht2⟩
          have f2 : ∀ j ∈ rb :: (wv.ownBlock.toList ++ tv.ownBlock.toList), j ∈ fpR rb rib wv tv := fun j hj => by simp [fpR] at hj ⊢; rcases hj with hj | hj | hj <;> simp [hj]
          have g1 : ∀ j ∈ fpB bb ib lv', j ∈ fpB bb ib lv ∨ w.heap.size ≤ j := fun j hj => by
            simp only [fpB, List.mem_cons, Option.mem_toList, Option.mem_def] at hj ⊢
            rcases hj with hj | hj | hj
            · exact .inl (.inl hj)
            · exact .inl (.inr (.inl hj))
            · rcases hl1 j hj with h | h
              · exact .inl (.inr (.inr h))
              · exact .inr h
          have hapR : ∀ j ∈ fpB bb ib lv', j ∉ fpR rb rib wv tv := fun j hj hm => by
            rcases g1 j hj with h | h
            · exact hB.apart j h hm
            · have := hB.r.lt j hm; omega
          have hb2 : Bd w2 bb ib lv' (L ++ [((k : Int), t)]) I := hb1.keep hc2 (fun j hj hm => hapR j hj (f2 j hm))
          have hs1 := hc1.size
          refine ⟨rfl, ⟨ib, rib, lv', wv', tv', _, I, ⟨hb2, hr2, hB.len, ?_⟩, ?_, ?_⟩, ?_⟩
          · intro j hj hm
            simp only [fpR, List.mem_cons, List.mem_append, Option.mem_toList, Option.mem_def] at hm
            rcases hm with hm | hm | hm | hm
            · exact hapR j hj (by simp [fpR, hm])
            · exact hapR j hj (by simp [fpR, hm])
            · rcases hw2 j hm with h | h
              · exact hapR j hj (by simp [fpR, h])
              · have := hb1.lt j hj; omega
            · rcases ht2 j hm with h | h
              · exact hapR j hj (by simp [fpR, h])
              · have := hb1.lt j hj; omega
          · intro j hj
            refine ⟨?_, hb2.lt j hj⟩
            rcases g1 j hj with h | h
            · exact (hn1 j h).1
            · omega
          · intro j hm
            refine ⟨?_, hr2.lt j hm⟩
            simp only [fpR, List.mem_cons, List.mem_append, Option.mem_toList, Option.mem_def] at hm
            rcases hm with hm | hm | hm | hm
            · exact (hn2 j (by simp [fpR, hm])).1
            · exact (hn2 j (by simp [fpR, hm])).1
            · rcases hw2 j hm with h | h
              · exact (hn2 j (by simp [fpR, h])).1
              · omega
            · rcases ht2 j hm with h | h
              · exact (hn2 j (by simp [fpR, h])).1
              · omega
          · exact FrameP.trans ⟨_, hc1, fun j hj => hn1 j (f1 j hj)⟩ ⟨_, hc2, fun j hj => hn2 j (f2 j hj)⟩
end Go.Proofs.L
