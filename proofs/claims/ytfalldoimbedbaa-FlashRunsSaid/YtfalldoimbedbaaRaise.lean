/- Proved here: lemmas and contracts (Raise) for the laws of this seat, for all values of the stated types; no further condition. -/
import Derived.Test.YtfalldoimbedbaaCounter
open Go Go.RowKit Go.Lib
namespace Go.Proofs.L
def px (n k : Nat) : Nat := if k = 0 then n else if k = 1 then 4294967295 - n else 0
theorem px_lt {n : Nat} (h : n < 4294967296) (k : Nat) : px n k < 4294967296 := by
  unfold px
  repeat' split
  all_goals omega
theorem Chg.mono {E E' : List Nat} {a b} (h : Chg E a b) (hE : ∀ k ∈ E, k ∈ E') : Chg E' a b := ⟨h.os, h.tape, h.output, h.size, fun k hk hn => h.block k hk (fun hm => hn (hE k hm))⟩
/-- behind the first k writes of a slot -/
def pS (S : FS) (q n : Nat) : Nat → FS
  | 0 => S
  | k + 1 => (pS S q n k).write (q + k) (px n k)
theorem pS_ok {S : FS} (h : S.Ok) (q n : Nat) : ∀ k, (pS S q n k).Ok
  | 0 => h
  | k + 1 => (pS_ok h q n k).write _ _
def putT (S : FS) (q n : Nat) : FS := if (pS S q n 0).okB then if (pS S q n 1).okB then pS S q n 3 else pS S q n 2 else pS S q n 1
def putE (S : FS) (q n : Nat) : Int := if (pS S q n 0).okB then if (pS S q n 1).okB then errW (pS S q n 2) else 19 else 19
theorem putT_ok {S : FS} (h : S.Ok) (q n : Nat) : (putT S q n).Ok := by
  unfold putT; repeat' split
  all_goals exact pS_ok h _ _ _
theorem put_in {w b S} (h : Fl w b S) (hS : S.Ok) (s k n : Nat) (hs : s < 2) (hk : k < 5) (hn : n < 4294967296) : Calls Try.prog 27 #[.pointer (some ⟨b, 0, none⟩), .int .i64 s, .int .i64 k, .int .u32 (n : Int)] w fun e w' => e = .returned (.int .i64 (putE S (16 * s + 3 * k) n)) ∧ Fl w' b (putT S (16 * s + 3 * k) n) ∧ Chg [b] w w' := by
  obtain ⟨z, y, q, q1, q2, hq, hq1, hq2, hlt, e1, e2, e3, e4, e5, e6, -, -, -, -⟩ := slot_nums s k hs hk
  rw [← hq]
  have a2 := not32 n hn
  have H := Lib.hid h
  have HS := Lib.hid hS
  have hb := h.lt
  have HQ : Hid (q + 2 < 32) := Lib.hid (by omega)
  have HN := Lib.hid hn
  clear h hS hq hq1 hq2 hlt hs hk hn
  go_enter Try.func27, Try.ntmps27
  go_wp2_with fail
  obtain ⟨W1, hW⟩ : ∃ W1, W1 = w.alloc (.cells #[.int .u32 (n : Int), .int .u32 ((4294967295 - n : Nat) : Int), .int .u32 0] 26) := ⟨_, rfl⟩
  rw [← hW]
  have hC : Chg [] w W1 := by rw [hW]; exact (Chg.refl _ _).alloc _
  have hR : W1.row? w.heap.size = some #[.int .u32 (n : Int), .int .u32 ((4294967295 - n : Nat) : Int), .int .u32 0] := by rw [hW]; exact row_alloc_at _ _ _ _ rfl
  have HC := Lib.hid hC
  have HR := Lib.hid hR
  clear hW hC hR a2
  go_loopw [23] (fun i wr => ∃ k : Nat, k ≤ 3 ∧ i = .int .i64 k ∧ Fl wr b (pS S q n k) ∧ (∀ j, j < k → (pS S q n j).okB = true) ∧ Chg [b] W1 wr) (fun i _ => 3 - (intOf i).toNat)
  case atStart => exact ⟨0, by omega, rfl, H.out.keep HC.out (by simp), fun j hj => by omega, Chg.refl _ _⟩
  case round =>
    obtain ⟨j, hj, rfl, hF, ho, hCj⟩ := hrel
    obtain ⟨wo, rfl⟩ : ∃ wo : World, wo = wr := ⟨_, rfl⟩
    have hne : w.heap.size ≠ b := by omega
    have hr := (hCj.row (b := w.heap.size) (row_lt HR.out) (by simp; exact hne)).trans HR.out
    have HO := Lib.hid ho
    have HCj := Lib.hid hCj
    have HF := Lib.hid hF
    clear hF ho hCj
    by_cases hj3 : j < 3
    · have cj : wo.cell? ⟨w.heap.size, j, none⟩ = some (.int .u32 (px n j : Nat)) := by
        have : j = 0 ∨ j = 1 ∨ j = 2 := by omega
        rw [row_cell hr]
        rcases this with rfl | rfl | rfl
        · simp [px]
        · simp [px]
        · simp [px]
      have hq32 : q + j < 32 := Nat.lt_of_le_of_lt (Nat.add_le_add_left (Nat.le_of_lt_succ hj3) q) HQ.out
      have wq : wrap64 ((q : Int) + (j : Int)) = ((q + j : Nat) : Int) := by rw [IntWalk.wrap64_in _ ⟨by omega, by have := HQ.out; omega⟩]; omega
      have hw := write_in HF.out (pS_ok HS.out q n j) (q + j) (px n j) hq32 (px_lt HN.out j)
      obtain ⟨qj, hqj⟩ : ∃ qj, qj = q + j := ⟨_, rfl⟩
      rw [← hqj] at wq hw hq32
      have HWr := Lib.hid hw
      have HQJ := Lib.hid hqj
      clear hw hqj hr hq32
      go_wp2_with fail
      refine HWr.out.mono ?_
      rintro e w2 ⟨rfl, hF2, hC2⟩
      have HF2 := Lib.hid hF2
      have HC2 := Lib.hid hC2
      clear hF2 hC2
      have hst : (pS S q n j).write qj (px n j) = pS S q n (j + 1) := by rw [HQJ.out]; rfl
      have HST := Lib.hid hst
      clear hst
      cases ho : (pS S q n j).okB with
      | true =>
        have he : errW (pS S q n j) = 0 := by unfold errW; rw [ho]; rfl
        go_wp2
        exact ⟨⟨j + 1, by omega, by go_num, by rw [← HST.out]; exact HF2.out, fun i hi => by
          rcases Nat.lt_or_ge i j with h | h
          · exact HO.out i h
          · obtain rfl : i = j := by omega
            exact ho, HCj.out.trans HC2.out⟩, by simp only [intOf]; omega⟩
      | false =>
        have he : errW (pS S q n j) = 19 := by unfold errW; rw [ho]; rfl
        go_wp2
        go_ret
        have hj' : j = 0 ∨ j = 1 ∨ j = 2 := by omega
        have hf := HF2.out
        rw [HST.out] at hf
        refine ⟨?_, ?_, (HC.out.mono (by simp)).trans (HCj.out.trans HC2.out)⟩
        · rcases hj' with rfl | rfl | rfl
          · unfold putE; rw [ho]; rfl
          · unfold putE; rw [HO.out 0 (by omega), ho]; rfl
          · unfold putE; rw [HO.out 0 (by omega), HO.out 1 (by omega), he]; rfl
        · rcases hj' with rfl | rfl | rfl
          · unfold putT; rw [ho]; exact hf
          · unfold putT; rw [HO.out 0 (by omega), ho]; exact hf
          · unfold putT; rw [HO.out 0 (by omega), HO.out 1 (by omega)]; exact hf
    · obtain rfl : j = 3 := by omega
      clear hr
      go_wp2
      go_ret
      refine ⟨?_, ?_, (HC.out.mono (by simp)).trans HCj.out⟩
      · unfold putE errW; rw [HO.out 0 (by omega), HO.out 1 (by omega), HO.out 2 (by omega)]; rfl
      · unfold putT; rw [HO.out 0 (by omega), HO.out 1 (by omega)]; exact HF.out
def raiseT (S : FS) (n : Nat) : FS :=
  if n ≤ counter S.f then S else
    if room S.f (newest S.f) = 5 then if S.okB then putT (S.erase (1 - newest S.f)) (16 * (1 - newest S.f) + 3 * 0) n else S.erase (1 - newest S.f)
    else putT S (16 * newest S.f + 3 * room S.f (newest S.f)) n
def raiseE (S : FS) (n : Nat) : Int :=
  if n ≤ counter S.f then 0 else
    if room S.f (newest S.f) = 5 then if S.okB then putE (S.erase (1 - newest S.f)) (16 * (1 - newest S.f) + 3 * 0) n else 19
    else putE S (16 * newest S.f + 3 * room S.f (newest S.f)) n
theorem raiseT_ok {S : FS} (h : S.Ok) (n : Nat) : (raiseT S n).Ok := by
  unfold raiseT; repeat' split
  · exact h
  · exact putT_ok (h.erase _) _ _
  · exact h.erase _
  · exact putT_ok h _ _
theorem raise_nil (n : Int) (w : World) : Calls Try.prog 14 #[.pointer none, .int .u32 n] w fun e w' => e = .returned (.int .i64 1) ∧ w' = w := by
  go_enter Try.func14, Try.ntmps14
  go_wp2
  go_ret
  exact ⟨rfl, rfl⟩
set_option maxRecDepth 100000 in
set_option maxHeartbeats 1600000 in
theorem raise_in {w b S} (h : Fl w b S) (hS : S.Ok) (n : Nat) (hn : n < 4294967296) : Calls Try.prog 14 #[.pointer (some ⟨b, 0, none⟩), .int .u32 (n : Int)] w fun e w' => e = .returned (.int .i64 (raiseE S n)) ∧ Fl w' b (raiseT S n) ∧ Chg [b] w w' := by
  have H := Lib.hid h
  have HS := Lib.hid hS
  have HK := Lib.hid (counter_in h hS)
  have HN := Lib.hid hn
  clear h hS hn
  go_enter Try.func14, Try.ntmps14
  go_wp2_with fail
  refine HK.out.mono ?_
  rintro e w0 ⟨rfl, hC0⟩
  have HC0 := Lib.hid hC0
  have HF0 := Lib.hid (H.out.keep hC0 (by simp))
  clear HK hC0
  obtain ⟨c, hc⟩ : ∃ c, c = counter S.f := ⟨_, rfl⟩
  rw [← hc]
  have HCc := Lib.hid hc
  clear hc
  by_cases hle : n ≤ c
  · have d : decide ((n : Int) ≤ (c : Int)) = true := by simp; omega
    go_wp2
    go_ret
    have hle2 : n ≤ counter S.f := by rw [← HCc.out]; exact hle
    refine ⟨by unfold raiseE; rw [if_pos hle2]; rfl, by unfold raiseT; rw [if_pos hle2]; exact HF0.out, HC0.out.mono (by simp)⟩
  · have d : decide ((n : Int) ≤ (c : Int)) = false := by simp; omega
    have d' : decide (n ≤ c) = false := by simp; omega
    have hle2 : Hid (¬ n ≤ counter S.f) := Lib.hid (by rw [← HCc.out]; exact hle)
    clear hle
    go_wp2_with fail
    refine (newest_in HF0.out HS.out).mono ?_
    rintro e w1 ⟨rfl, hC1⟩
    have HF1 := Lib.hid (HF0.out.keep hC1 (by simp))
    have HC1 : Hid (Chg [] w w1) := Lib.hid (HC0.out.trans hC1)
    clear hC1
    obtain ⟨s, hs⟩ : ∃ s, s = newest S.f := ⟨_, rfl⟩
    have hs2 : s < 2 := by rw [hs]; exact newest_lt _
    rw [← hs]
    have HSs := Lib.hid hs
    clear hs
    go_wp2_with fail
    refine (room_in HF1.out s hs2).mono ?_
    rintro e w2 ⟨rfl, hC2⟩
    have HF2 := Lib.hid (HF1.out.keep hC2 (by simp))
    have HC2 : Hid (Chg [] w w2) := Lib.hid (HC1.out.trans hC2)
    clear hC2
    obtain ⟨k, hk⟩ : ∃ k, k = room S.f s := ⟨_, rfl⟩
    have hk2 : k ≤ 5 := by rw [hk]; exact rm_le _ _ 5
    rw [← hk]
    have HKk := Lib.hid hk
    clear hk
    by_cases hk5 : k = 5
    · subst hk5
      have hr5 : Hid (room S.f (newest S.f) = 5) := Lib.hid (by rw [← HSs.out, ← HKk.out])
      have w1' : wrap64 (1 - (s : Int)) = ((1 - s : Nat) : Int) := by rw [IntWalk.wrap64_in _ ⟨by omega, by omega⟩]; omega
      have HE := erase_in HF2.out HS.out (1 - s) (by omega)
      obtain ⟨s', hs'⟩ : ∃ s', s' = 1 - s := ⟨_, rfl⟩
      rw [← hs'] at w1' HE
      have hs3 : s' < 2 := by omega
      have w2' : (1 : Int) - (s : Int) = (s' : Int) := by omega
      have HSs' : Hid (s' = 1 - newest S.f) := Lib.hid (by rw [hs', HSs.out])
      clear hs'
      have HE := Lib.hid HE
      go_wp2_with fail
      refine HE.out.mono ?_
      rintro e w3 ⟨rfl, hF3, hC3⟩
      have HF3 := Lib.hid hF3
      have HC3 : Hid (Chg [b] w w3) := Lib.hid ((HC2.out.mono (by simp)).trans hC3)
      clear hF3 hC3
      cases ho : S.okB with
      | true =>
        have he : errW S = 0 := by unfold errW; rw [ho]; rfl
        have HP : Hid (Calls Try.prog 27 #[.pointer (some ⟨b, 0, none⟩), .int .i64 s', .int .i64 0, .int .u32 (n : Int)] w3 fun e w' => e = .returned (.int .i64 (putE (S.erase s') (16 * s' + 3 * 0) n)) ∧ Fl w' b (putT (S.erase s') (16 * s' + 3 * 0) n) ∧ Chg [b] w3 w') := Lib.hid (put_in HF3.out (HS.out.erase s') s' 0 n hs3 (by omega) HN.out)
        go_wp2_with fail
        refine HP.out.mono ?_
        rintro e w4 ⟨rfl, hF4, hC4⟩
        have HF4 := Lib.hid hF4
        have HC4 := Lib.hid hC4
        clear hF4 hC4
        go_wp2
        go_ret
        refine ⟨?_, ?_, HC3.out.trans HC4.out⟩
        · unfold raiseE; rw [if_neg hle2.out, if_pos hr5.out, ho, ← HSs'.out]; rfl
        · unfold raiseT; rw [if_neg hle2.out, if_pos hr5.out, ho, ← HSs'.out]; exact HF4.out
      | false =>
        have he : errW S = 19 := by unfold errW; rw [ho]; rfl
        go_wp2
        go_ret
        refine ⟨?_, ?_, HC3.out⟩
        · unfold raiseE; rw [if_neg hle2.out, if_pos hr5.out, ho]; rfl
        · unfold raiseT; rw [if_neg hle2.out, if_pos hr5.out, ho, ← HSs'.out]; exact HF3.out
    · have hr5 : Hid (¬ room S.f (newest S.f) = 5) := Lib.hid (by rw [← HSs.out, ← HKk.out]; exact hk5)
      have d5 : ((k : Int) == 5) = false := by simp; omega
      have d6 : ((k : Int) = 5) = False := by simp; omega
      have HP := Lib.hid (put_in HF2.out HS.out s k n hs2 (by omega) HN.out)
      clear hk5
      go_wp2_with fail
      refine HP.out.mono ?_
      rintro e w4 ⟨rfl, hF4, hC4⟩
      have HF4 := Lib.hid hF4
      have HC4 := Lib.hid hC4
      clear hF4 hC4
      go_wp2
      go_ret
      refine ⟨?_, ?_, (HC2.out.mono (by simp)).trans HC4.out⟩
      · unfold raiseE; rw [if_neg hle2.out, if_neg hr5.out, ← HSs.out, ← HKk.out]; rfl
      · unfold raiseT; rw [if_neg hle2.out, if_neg hr5.out, ← HSs.out, ← HKk.out]; exact HF4.out
end Go.Proofs.L
