/- Proved here: lemmas and contracts (Both) for the laws of this seat, for all values of the stated types; no further condition. -/
import Derived.Test.YteikhmabgnpljaaRefBoth
import Derived.Test.YteikhmabgnpljaaOrderAll
open Go Go.RowKit Go.Lib Go.Conc
namespace Go.Proofs.L
theorem Chg.weak {E E' : List Nat} {a b : World} (h : Chg E a b) (hs : ∀ k ∈ E, k ∈ E') : Chg E' a b := ⟨h.os, h.tape, h.output, h.size, fun k hk hE => h.block k hk (fun hm => hE (hs k hm))⟩
/-- what has changed lies in [N, M), or is new -/
def FrameP (N M : Nat) (w w1 : World) : Prop := ∃ fp, Chg fp w w1 ∧ (∀ k ∈ fp, N ≤ k ∧ k < M)
theorem FrameP.refl (N M w) : FrameP N M w w := ⟨[], Chg.refl _ _, by simp⟩
theorem FrameP.ofNil {N M w w1} (h : Chg [] w w1) : FrameP N M w w1 := ⟨[], h, by simp⟩
theorem FrameP.drew {N M w w1} (h : FrameP N M w w1) : FrameP N M w w1.drew := by obtain ⟨fp, h1, h2⟩ := h; exact ⟨fp, h1.drew, h2⟩
theorem FrameP.trans {N M a b c} (h : FrameP N M a b) (k : FrameP N M b c) : FrameP N M a c := by
  obtain ⟨fp, h1, h2⟩ := h
  obtain ⟨fq, k1, k2⟩ := k
  exact ⟨fp ++ fq, (h1.weak (fun j hj => by simp [hj])).trans (k1.weak (fun j hj => by simp [hj])), fun j hj => by
    rcases List.mem_append.1 hj with hj | hj
    · exact h2 j hj
    · exact k2 j hj⟩
theorem FrameP.cell {N M b : Nat} {a c : World} (h : FrameP N M a c) (hb : M ≤ b) (hl : b < a.heap.size) (i : Nat) : c.cell? ⟨b, i, none⟩ = a.cell? ⟨b, i, none⟩ := by
  obtain ⟨fp, h1, h2⟩ := h
  have := h1.block b hl (fun hm => by have := (h2 b hm).2; omega)
  exact World.cell?_of_block this
theorem FrameP.drewL {N M : Nat} {a c : World} (h : FrameP N M a.drew c) : FrameP N M a c := (FrameP.refl N M a).drew.trans h
theorem FrameP.belowW {N M : Nat} {w a c : World} (h : FrameP N M a c) (hw : Below N w a) (hN : N ≤ w.heap.size := by omega) : Below N w c := by
  have hsz := hw.size
  obtain ⟨fp, h1, h2⟩ := h
  exact ⟨h1.os.trans hw.os, h1.tape.trans hw.tape, h1.output.trans hw.output, Nat.le_trans hw.size h1.size, fun k hk => by
    rcases Nat.lt_or_ge k a.heap.size with hl | hl
    · exact (h1.block k hl (fun hm => by have := (h2 k hm).1; omega)).trans (hw.block k hk)
    · exact absurd hk (by omega)⟩
structure Both (w : World) (n pb g cap : Nat) (C : List Nat) (rb rg : Nat) (V : List Value) (B : List (List (Int × ByteArray))) : Prop where
  p : Po w pb g cap C B
  r : Rp w rb rg V B
  cl : C.length = n
  vl : V.length = n
  apart : ∀ k ∈ fpP pb g C, k ∉ fpR rb rg V
/-- the same, its parts unnamed -/
def BothE (N M : Nat) (w : World) (n pb rb : Nat) : Prop := ∃ g cap C rg V B, Both w n pb g cap C rb rg V B ∧ (∀ k ∈ fpP pb g C, N ≤ k ∧ k < M) ∧ (∀ k ∈ fpR rb rg V, N ≤ k ∧ k < M)
theorem BothE.up {N M w n pb rb} (h : BothE N M w n pb rb) : BothE N w.heap.size w n pb rb := by
  obtain ⟨g, cap, C, rg, V, B, hB, h1, h2⟩ := h
  exact ⟨g, cap, C, rg, V, B, hB, fun k hk => ⟨(h1 k hk).1, hB.p.lt k hk⟩, fun k hk => ⟨(h2 k hk).1, hB.r.lt k hk⟩⟩
theorem Both.keep {w w' n pb g cap C rb rg V B} {E : List Nat} (h : Both w n pb g cap C rb rg V B) (hc : Chg E w w') (h1 : ∀ k ∈ fpP pb g C, k ∉ E) (h2 : ∀ k ∈ fpR rb rg V, k ∉ E) : Both w' n pb g cap C rb rg V B :=
  ⟨h.p.keep hc h1, h.r.keep hc h2, h.cl, h.vl, h.apart⟩
theorem BothE.keep {N M n pb rb : Nat} {w w' : World} {E : List Nat} (h : BothE N M w n pb rb) (hc : Chg E w w') (hE : ∀ k ∈ E, k < N ∨ M ≤ k) : BothE N M w' n pb rb := by
  obtain ⟨g, cap, C, rg, V, B, hB, h1, h2⟩ := h
  exact ⟨g, cap, C, rg, V, B, hB.keep hc (fun k hk hm => by have := h1 k hk; have := hE k hm; omega) (fun k hk hm => by have := h2 k hk; have := hE k hm; omega), h1, h2⟩
theorem BothE.drew {N M n pb rb : Nat} {w : World} (h : BothE N M w n pb rb) : BothE N M w.drew n pb rb := h.keep (E := []) (Chg.refl _ _).drew (by simp)
def SendP (N M n pb rb : Nat) (i : Int) (l : Int × ByteArray) (w : World) (e : Ending) (w1 : World) : Prop := ∃ r : Int, e = .returned (.int .i64 r) ∧ FrameP N M w w1 ∧
  Calls Try.prog 11 #[.pointer (some ⟨rb, 0, none⟩), .int .i64 i, letV l] w1 fun e' w2 => e' = .returned (.int .i64 r) ∧ BothE N w2.heap.size w2 n pb rb ∧ FrameP N M w w2
theorem send_both {N M n pb rb : Nat} {w : World} (h : BothE N M w n pb rb) (i : Int) (l : Int × ByteArray) : Calls Try.prog 8 #[.pointer (some ⟨pb, 0, none⟩), .int .i64 i, letV l] w (SendP N M n pb rb i l w) := by
  obtain ⟨g, cap, C, rg, V, B, hB, hn1, hn2⟩ := h
  have hcl := hB.cl
  have hvl := hB.vl
  have plain : ∀ {w1 : World}, Chg [] w w1 → BothE N w1.heap.size w1 n pb rb ∧ FrameP N M w w1 := fun hc =>
    ⟨BothE.up (M := M) ⟨g, cap, C, rg, V, B, hB.keep hc (by simp) (by simp), hn1, hn2⟩, .ofNil hc⟩
  by_cases hi : 0 ≤ i ∧ i < n
  · obtain ⟨k, rfl⟩ := Int.eq_ofNat_of_zero_le hi.1
    have hk : k < C.length := by omega
    have hk2 : k < V.length := by omega
    by_cases ht : 1 ≤ l.2.size ∧ l.2.size ≤ 16
    · rcases Nat.lt_or_ge (B.getD k []).length 4 with hl | hl
      · refine (send_ok hB.p k hk l ht.1 ht.2 hl).mono ?_
        rintro e w1 ⟨rfl, hp1, hc1⟩
        have f1 : C[k] ∈ fpP pb g C := by simp [fpP]
        have hr1 : Rp w1 rb rg V B := hB.r.keep hc1 (fun j hj hm => by simp at hm; subst hm; exact hB.apart _ f1 hj)
        refine ⟨_, rfl, ⟨_, hc1, fun j hj => by simp at hj; subst hj; exact hn1 _ f1⟩, (rsend_ok hr1 k hk2 l ht hl).mono ?_⟩
        rintro e w2 ⟨rfl, v', hr2, hc2, hv⟩
        have f2 : ∀ j ∈ rg :: V[k].ownBlock.toList, j ∈ fpR rb rg V := fun j hj => by
          rcases List.mem_cons.1 hj with rfl | hj
          · simp [fpR]
          · exact mem_fpR.2 (.inr (.inr ⟨k, hk2, by simpa using hj⟩))
        have f3 : ∀ j ∈ fpR rb rg (V.set k v'), j ∈ fpR rb rg V ∨ (w1.heap.size ≤ j) := fun j hj => by
          rcases mem_fpR.1 hj with rfl | rfl | ⟨a, ha, hj⟩
          · exact .inl (by simp [fpR])
          · exact .inl (by simp [fpR])
          · simp only [List.length_set] at ha
            by_cases e : k = a
            · subst e
              simp only [List.getElem_set_self] at hj
              rcases hv with hv | ⟨H, hv, hH⟩
              · exact .inl (mem_fpR.2 (.inr (.inr ⟨k, hk2, by rw [← hv]; exact hj⟩)))
              · rw [hv] at hj; cases hj; exact .inr hH
            · simp only [List.getElem_set_ne e] at hj
              exact .inl (mem_fpR.2 (.inr (.inr ⟨a, ha, hj⟩)))
        have hp2 := hp1.keep hc2 (fun j hj hm => hB.apart j hj (f2 j hm))
        have s1 := hc1.size
        have s2 := hc2.size
        refine ⟨rfl, ⟨g, cap, C, rg, V.set k v', _, ⟨hp2, hr2, hcl, by simpa using hvl, fun j hj hm => ?_⟩, fun j hj => ⟨(hn1 j hj).1, hp2.lt j hj⟩, fun j hj => ⟨?_, hr2.lt j hj⟩⟩, ?_⟩
        · rcases f3 j hm with h | h
          · exact hB.apart j hj h
          · have := hp1.lt j hj; omega
        · rcases f3 j hj with h | h
          · exact (hn2 j h).1
          · have := (hn1 pb (by simp [fpP])).1; have := hB.p.lt pb (by simp [fpP]); omega
        · exact FrameP.trans ⟨_, hc1, fun j hj => by simp at hj; subst hj; exact hn1 _ f1⟩ ⟨_, hc2, fun j hj => hn2 j (f2 j hj)⟩
      · have h4 : (B.getD k []).length = 4 := by have := hB.r.getL k hk2; omega
        refine (send_fu hB.p k hk l ht.1 ht.2 h4).mono ?_
        rintro e w1 ⟨rfl, hp1, hc1⟩
        refine ⟨_, rfl, .ofNil hc1, (rsend_full (hB.r.keep hc1 (by simp)) k hk2 l ht h4).mono ?_⟩
        rintro e w2 ⟨rfl, rfl⟩
        exact ⟨rfl, plain (hc1.trans (rletW_chg _ _))⟩
    · refine (send_bad hB.p k l (.inr ht)).mono ?_
      rintro e w1 ⟨rfl, hp1, hc1⟩
      refine ⟨_, rfl, .ofNil hc1, (rsend_text (hB.r.keep hc1 (by simp)) k hk2 l ht).mono ?_⟩
      rintro e w2 ⟨rfl, rfl⟩
      exact ⟨rfl, plain (hc1.trans (rletW_chg _ _))⟩
  · refine (send_bad hB.p i l (.inl (by omega))).mono ?_
    rintro e w1 ⟨rfl, hp1, hc1⟩
    refine ⟨_, rfl, .ofNil hc1, (rsend_out (hB.r.keep hc1 (by simp)) i (by omega) l).mono ?_⟩
    rintro e w2 ⟨rfl, rfl⟩
    exact ⟨rfl, plain (hc1.trans (rletW_chg _ _))⟩
def TakeP (N M n pb rb : Nat) (i : Int) (w : World) (e : Ending) (w1 : World) : Prop := ∃ (l : Int × ByteArray) (r : Int), e = .returned (.tuple #[letV l, .int .i64 r]) ∧ FrameP N M w w1 ∧ BothW N M n pb rb i l r w w1
where BothW (N M n pb rb : Nat) (i : Int) (l : Int × ByteArray) (r : Int) (w w1 : World) : Prop := ∀ w1', Chg [] w1 w1' →
  Calls Try.prog 12 #[.pointer (some ⟨rb, 0, none⟩), .int .i64 i] w1' fun e' w2 => e' = .returned (.tuple #[letV l, .int .i64 r]) ∧ BothE N w2.heap.size w2 n pb rb ∧ FrameP N M w w2 ∧ FrameP N M w1' w2
theorem take_both {N M n pb rb : Nat} {w : World} (h : BothE N M w n pb rb) (i : Int) : Calls Try.prog 9 #[.pointer (some ⟨pb, 0, none⟩), .int .i64 i] w (TakeP N M n pb rb i w) := by
  obtain ⟨g, cap, C, rg, V, B, hB, hn1, hn2⟩ := h
  have hcl := hB.cl
  have hvl := hB.vl
  have plain : ∀ {w1 : World}, Chg [] w w1 → BothE N w1.heap.size w1 n pb rb ∧ FrameP N M w w1 := fun hc =>
    ⟨BothE.up (M := M) ⟨g, cap, C, rg, V, B, hB.keep hc (by simp) (by simp), hn1, hn2⟩, .ofNil hc⟩
  by_cases hi : 0 ≤ i ∧ i < n
  · obtain ⟨k, rfl⟩ := Int.eq_ofNat_of_zero_le hi.1
    have hk : k < C.length := by omega
    have hk2 : k < V.length := by omega
    rcases hL : B.getD k [] with _ | ⟨l, L⟩
    · refine (take_em hB.p k hk hL).mono ?_
      rintro e w1 ⟨rfl, hp1, hc1⟩
      refine ⟨(0, ⟨#[]⟩), 17, rfl, .ofNil hc1, fun w1' hc' => (rtake_em (hB.r.keep (hc1.trans hc') (by simp)) k hk2 hL).mono ?_⟩
      rintro e w2 ⟨rfl, hc2⟩
      exact ⟨rfl, (plain ((hc1.trans hc').trans hc2)).1, (plain ((hc1.trans hc').trans hc2)).2, .ofNil hc2⟩
    · refine (take_ok hB.p k hk l L hL).mono ?_
      rintro e w1 ⟨rfl, hp1, hc1⟩
      have f1 : C[k] ∈ fpP pb g C := by simp [fpP]
      refine ⟨l, 0, rfl, ⟨_, hc1, fun j hj => by simp at hj; subst hj; exact hn1 _ f1⟩, fun w1' hc' => ?_⟩
      have hr1 : Rp w1' rb rg V B := hB.r.keep (hc1.trans (hc'.mono (by simp))) (fun j hj hm => by simp at hm; subst hm; exact hB.apart _ f1 hj)
      have hp1' := hp1.keep hc' (by simp)
      refine (rtake_ok hr1 k hk2 l L hL).mono ?_
      rintro e w2 ⟨rfl, v', hr2, hc2, hv⟩
      have f2 : rg ∈ fpR rb rg V := by simp [fpR]
      have f3 : ∀ j ∈ fpR rb rg (V.set k v'), j ∈ fpR rb rg V := fun j hj => by
        rcases mem_fpR.1 hj with rfl | rfl | ⟨a, ha, hj⟩
        · simp [fpR]
        · simp [fpR]
        · simp only [List.length_set] at ha
          by_cases e : k = a
          · subst e
            simp only [List.getElem_set_self] at hj
            exact mem_fpR.2 (.inr (.inr ⟨k, hk2, by rw [← hv]; exact hj⟩))
          · simp only [List.getElem_set_ne e] at hj
            exact mem_fpR.2 (.inr (.inr ⟨a, ha, hj⟩))
      have hp2 := hp1'.keep hc2 (fun j hj hm => by simp at hm; subst hm; exact hB.apart _ hj f2)
      have hF2 : FrameP N M w1' w2 := ⟨_, hc2, fun j hj => by simp at hj; subst hj; exact hn2 _ f2⟩
      refine ⟨rfl, ⟨g, cap, C, rg, V.set k v', _, ⟨hp2, hr2, hcl, by simpa using hvl, fun j hj hm => hB.apart j hj (f3 j hm)⟩, fun j hj => ⟨(hn1 j hj).1, hp2.lt j hj⟩, fun j hj => ⟨(hn2 j (f3 j hj)).1, hr2.lt j hj⟩⟩, ?_, hF2⟩
      exact FrameP.trans (FrameP.trans ⟨_, hc1, fun j hj => by simp at hj; subst hj; exact hn1 _ f1⟩ (.ofNil hc')) hF2
  · refine (take_out hB.p i (by omega)).mono ?_
    rintro e w1 ⟨rfl, hp1, hc1⟩
    refine ⟨(0, ⟨#[]⟩), 1, rfl, .ofNil hc1, fun w1' hc' => (rtake_out (hB.r.keep (hc1.trans hc') (by simp)) i (by omega)).mono ?_⟩
    rintro e w2 ⟨rfl, hc2⟩
    exact ⟨rfl, (plain ((hc1.trans hc').trans hc2)).1, (plain ((hc1.trans hc').trans hc2)).2, .ofNil hc2⟩
theorem all_both {N M n pb rb : Nat} {w : World} (h : BothE N M w n pb rb) (i : Int) : Calls Try.prog 13 #[.pointer (some ⟨pb, 0, none⟩), .int .i64 i] w fun e w1 => ∃ v, e = .returned v ∧ BothE N w1.heap.size w1 n pb rb ∧ FrameP N M w w1 := by
  have h0 := h
  obtain ⟨g, cap, C, rg, V, B, hB, hn1, hn2⟩ := h
  have hcl := hB.cl
  have hvl := hB.vl
  by_cases hi : 0 ≤ i ∧ i < n
  · obtain ⟨k, rfl⟩ := Int.eq_ofNat_of_zero_le hi.1
    have hk : k < C.length := by omega
    refine (all_in hB.p k hk).mono ?_
    rintro e w1 ⟨v, rfl, ho, hp1, hc1⟩
    have f1 : C[k] ∈ fpP pb g C := by simp [fpP]
    have hr1 : Rp w1 rb rg V B := hB.r.keep hc1 (fun j hj hm => by simp at hm; subst hm; exact hB.apart _ f1 hj)
    exact ⟨v, rfl, BothE.up (M := M) ⟨g, cap, C, rg, V, B, ⟨hp1, hr1, hcl, hvl, hB.apart⟩, hn1, hn2⟩, ⟨_, hc1, fun j hj => by simp at hj; subst hj; exact hn1 _ f1⟩⟩
  · refine (all_out hB.p i (by omega)).mono ?_
    rintro e w1 ⟨rfl, rfl⟩
    exact ⟨_, rfl, h0.up, .refl _ _ _⟩
end Go.Proofs.L
