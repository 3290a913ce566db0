/- Proved here: lemmas and contracts (SendRoom) for the laws of this seat, for all values of the stated types; no further condition. -/
import Derived.Test.YteikhmabgnpljaaSend
open Go Go.RowKit Go.Lib Go.Conc
namespace Go.Proofs.L
theorem Chg.mono {E E' : List Nat} {a b} (h : Chg E a b) (hE : ∀ k ∈ E, k ∈ E') : Chg E' a b := ⟨h.os, h.tape, h.output, h.size, fun k hk hn => h.block k hk (fun hm => hn (hE k hm))⟩
theorem send_room {w : World} {pv : Value} {i : Int} {c : Nat} (l : Int × ByteArray) (L : List (Int × ByteArray)) (h1 : 1 ≤ l.2.size) (h16 : l.2.size ≤ 16) (h : Calls Try.prog 14 #[pv, .int .i64 i] (letW w l) fun e w' => e = .returned (.chan (some c)) ∧ w' = letW w l)
    (hb : BoxAt w c L) (hl : L.length < 4) :
    Calls Try.prog 8 #[pv, .int .i64 i, letV l] w fun e w' => e = .returned (.int .i64 0) ∧ BoxAt w' c (L ++ [l]) ∧ Chg [c] w w' := by
  have H := Lib.hid h
  have c1 : (letW w l).cell? ⟨w.heap.size, 1, none⟩ = some (.string l.2) := by
    rw [row_cell (cs := #[.int .i64 l.1, .string l.2]) (by unfold letW; rw [row_alloc_at _ _ _ _ rfl])]; rfl
  have c0 : (letW w l).cell? ⟨w.heap.size, 0, none⟩ = some (.int .i64 l.1) := by
    rw [row_cell (cs := #[.int .i64 l.1, .string l.2]) (by unfold letW; rw [row_alloc_at _ _ _ _ rfl])]; rfl
  clear h
  unfold letV
  obtain ⟨n, hn⟩ : ∃ n, n = l.2.size := ⟨_, rfl⟩
  rw [← hn] at h1 h16
  have d1 : decide ((n : Int) < 1) = false := by simp; omega
  have d2 : decide ((n : Int) > 16) = false := by simp; omega
  have d3 : decide (16 < (n : Int)) = false := by simp; omega
  rw [hn] at d1 d2 d3
  clear h1 h16 hn
  refine calls_of_wpN Try.func8 rfl ?_
  simp only [Try.ntmps8, List.size_toArray, List.length_cons, List.length_nil, Nat.reduceAdd, Nat.reduceSub, Array.replicate_succ, Array.replicate_zero, List.push_toArray, List.append_toArray, List.nil_append, List.cons_append]
  refine wpN_then fun K hK => ?_
  go_wp2
  refine wpN_then fun K hK => ?_
  go_wp2_with fail
  refine H.out.mono ?_
  rintro e w' ⟨rfl, rfl⟩
  go_wp2
  refine wpN_then fun K hK => ?_
  go_wp2
  refine wpN_then fun K hK => ?_
  go_wp2
  obtain ⟨s, r, hb⟩ := hb
  have hbc : (letW w l).heap[c]? = some (.chan 4 (bufC L) false s r false) := by
    rw [(letW_chg w l).block c (BoxAt.lt ⟨s, r, hb⟩) (by simp)]; exact hb
  refine wpN_seq (wpN_region ?_)
  show RegN _ _ _ (0 :: List.range' 1 2) _ _
  refine RegN.comm (w1 := letW w l) (w' := (letW w l).setChan c 4 ((bufC L).push (letV l)) false (s + 1) r false) (v := .tuple #[goInt 0, .bool false]) (cases := #[scase c (letV l) (.agg #[.int .i64 0, .string ⟨#[]⟩])]) rfl rfl ?_ (fun fr cs es hs => step_lone_select_send_room hs hbc (by simpa [bufC] using hl)) ?_
  · unfold letV; kernel_rfl
  refine RegN.from 1 2 rfl ?_
  simp only [List.drop_succ_cons, List.drop_zero]
  go_wp2
  refine wpN_of_wp ?_
  go_wp2
  go_ret
  refine ⟨rfl, ⟨s + 1, r, ?_⟩, ((letW_chg w l).mono (by simp)).setChan (Or.inl (by simp)) _ _ _ _ _ _⟩
  rw [heap_setChan _ _ _ _ _ _ _ _ (BoxAt.lt ⟨s, r, hbc⟩)]
  simp [bufC]
theorem send_full {w : World} {pv : Value} {i : Int} {c : Nat} (l : Int × ByteArray) (L : List (Int × ByteArray)) (h1 : 1 ≤ l.2.size) (h16 : l.2.size ≤ 16) (h : Calls Try.prog 14 #[pv, .int .i64 i] (letW w l) fun e w' => e = .returned (.chan (some c)) ∧ w' = letW w l)
    (hb : BoxAt w c L) (hl : L.length = 4) :
    Calls Try.prog 8 #[pv, .int .i64 i, letV l] w fun e w' => e = .returned (.int .i64 16) ∧ w' = letW w l := by
  have H := Lib.hid h
  have c1 : (letW w l).cell? ⟨w.heap.size, 1, none⟩ = some (.string l.2) := by
    rw [row_cell (cs := #[.int .i64 l.1, .string l.2]) (by unfold letW; rw [row_alloc_at _ _ _ _ rfl])]; rfl
  have c0 : (letW w l).cell? ⟨w.heap.size, 0, none⟩ = some (.int .i64 l.1) := by
    rw [row_cell (cs := #[.int .i64 l.1, .string l.2]) (by unfold letW; rw [row_alloc_at _ _ _ _ rfl])]; rfl
  clear h
  unfold letV
  obtain ⟨n, hn⟩ : ∃ n, n = l.2.size := ⟨_, rfl⟩
  rw [← hn] at h1 h16
  have d1 : decide ((n : Int) < 1) = false := by simp; omega
  have d2 : decide ((n : Int) > 16) = false := by simp; omega
  have d3 : decide (16 < (n : Int)) = false := by simp; omega
  rw [hn] at d1 d2 d3
  clear h1 h16 hn
  refine calls_of_wpN Try.func8 rfl ?_
  simp only [Try.ntmps8, List.size_toArray, List.length_cons, List.length_nil, Nat.reduceAdd, Nat.reduceSub, Array.replicate_succ, Array.replicate_zero, List.push_toArray, List.append_toArray, List.nil_append, List.cons_append]
  refine wpN_then fun K hK => ?_
  go_wp2
  refine wpN_then fun K hK => ?_
  go_wp2_with fail
  refine H.out.mono ?_
  rintro e w' ⟨rfl, rfl⟩
  go_wp2
  refine wpN_then fun K hK => ?_
  go_wp2
  refine wpN_then fun K hK => ?_
  go_wp2
  obtain ⟨s, r, hb⟩ := hb
  have hbc : (letW w l).heap[c]? = some (.chan 4 (bufC L) false s r false) := by
    rw [(letW_chg w l).block c (BoxAt.lt ⟨s, r, hb⟩) (by simp)]; exact hb
  refine wpN_seq (wpN_region ?_)
  show RegN _ _ _ (0 :: List.range' 1 2) _ _
  refine RegN.comm (w1 := letW w l) (w' := letW w l) (v := .tuple #[goInt (-1), .bool false]) (cases := #[scase c (letV l) (.agg #[.int .i64 0, .string ⟨#[]⟩])]) rfl rfl ?_ (fun fr cs es hs => step_lone_select_send_full hs hbc (by simp [bufC, hl])) ?_
  · unfold letV; kernel_rfl
  refine RegN.from 1 2 rfl ?_
  simp only [List.drop_succ_cons, List.drop_zero]
  go_wp2
  refine wpN_of_wp ?_
  go_wp2
  go_ret
  exact ⟨rfl, rfl⟩
end Go.Proofs.L
