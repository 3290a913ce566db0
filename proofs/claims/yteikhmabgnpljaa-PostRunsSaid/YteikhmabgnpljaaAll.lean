/- Proved here: lemmas and contracts (All) for the laws of this seat, for all values of the stated types; no further condition. -/
import Derived.Test.YteikhmabgnpljaaTake
import Derived.Laws.AppendOwn
import Derived.Laws.AppendOwnNone
open Go Go.RowKit Go.Lib Go.Conc
namespace Go.Proofs.L
theorem all_none {w : World} {pv : Value} {i : Int} (h : Calls Try.prog 14 #[pv, .int .i64 i] w fun e w' => e = .returned (.chan none) ∧ w' = w) :
    Calls Try.prog 13 #[pv, .int .i64 i] w fun e w' => e = .returned (.slice none 0 0) ∧ w' = w := by
  have H := Lib.hid h
  clear h
  go_enter Try.func13, Try.ntmps13
  go_wp2_with fail
  refine H.out.mono ?_
  rintro e w' ⟨rfl, rfl⟩
  go_wp2
  go_loopw [6, 13] (fun o k wr => o = .slice none 0 0 ∧ k = .int .i64 0 ∧ wr = w') (fun _ _ _ => 0)
  case atStart => exact ⟨rfl, rfl, rfl⟩
  case round =>
    obtain ⟨rfl, rfl, rfl⟩ := hrel
    go_wp2
    go_ret
    exact ⟨rfl, rfl⟩
def letC (l : Int × ByteArray) : List Value := [.int .i64 l.1, .string l.2]
def letsC (L : List (Int × ByteArray)) : List Value := L.flatMap letC
theorem info30 : (Try.prog.info? 30).map (fun i => (i.zero, i.size, i.bytes)) = some (some (.agg #[.int .i64 0, .string ⟨#[]⟩]), 2, 24) := by kernel_rfl
theorem recv_mid (w : World) {c s r : Nat} (l : Int × ByteArray) (L : List (Int × ByteArray)) (hb : w.heap[c]? = some (.chan 4 (bufC (l :: L)) false s r false)) :
    ∃ W1, W1 = w.setChan c 4 ((bufC (l :: L)).extract 1 (bufC (l :: L)).size) false s (r + 1) false ∧ W1.heap.size = w.heap.size ∧ BoxAt W1 c L ∧ Chg [c] w W1 := by
  have hlt : c < w.heap.size := BoxAt.lt ⟨s, r, hb⟩
  refine ⟨_, rfl, by rw [size_setChan], ⟨s, r + 1, ?_⟩, (Chg.refl _ _).setChan (Or.inl (by simp)) _ _ _ _ _ _⟩
  rw [heap_setChan _ _ _ _ _ _ _ _ hlt]
  have : ∀ M : List Value, List.take M.length M = M := fun M => List.take_length
  simpa [bufC] using this (List.map letV L)
theorem ownsRow_chg {E : List Nat} {w w' : World} {base e size n : Nat} {v : Value} {xs : List Value} (h : w.ownsRow base e size v n xs) (hc : Chg E w w') (hE : ∀ k, v.ownBlock = some k → k ∉ E) : w'.ownsRow base e size v n xs := by
  refine ⟨h.1, ?_⟩
  rcases h.2 with hn | ⟨g, cap, cur, rfl, hb, hgg, rest⟩
  · exact .inl hn
  · exact .inr ⟨g, cap, cur, rfl, hb, by rw [hc.block g (Array.getElem?_eq_some_iff.1 hgg).1 (hE g rfl)]; exact hgg, rest⟩
theorem all_some {w : World} {pv : Value} {i : Int} {c : Nat} (L : List (Int × ByteArray)) (hb : BoxAt w c L) (hl : L.length ≤ 4) (h : Calls Try.prog 14 #[pv, .int .i64 i] w fun e w' => e = .returned (.chan (some c)) ∧ w' = w) :
    Calls Try.prog 13 #[pv, .int .i64 i] w fun e w' => ∃ v, e = .returned v ∧ w'.ownsRow w.heap.size 30 2 v L.length (letsC L) ∧ BoxAt w' c L ∧ Chg [c] w w' := by
  have H := Lib.hid h
  obtain ⟨s, r, hb⟩ := hb
  have hbc := Lib.hid hb
  have hs : (bufC L).size = L.length := by simp [bufC]
  have HS := Lib.hid hs
  clear h hb hs
  refine calls_of_wpN Try.func13 rfl ?_
  simp only [Try.ntmps13, List.size_toArray, List.length_cons, List.length_nil, Nat.reduceAdd, Nat.reduceSub, Array.replicate_succ, Array.replicate_zero, List.push_toArray, List.append_toArray, List.nil_append, List.cons_append]
  refine wpN_then fun K hK => ?_
  go_wp2
  refine wpN_then fun K hK => ?_
  go_wp2_with fail
  refine H.out.mono ?_
  rintro e w' ⟨rfl, rfl⟩
  go_wp2
  have hlen := fun ty => run_len_chan (P := Try.prog) 54 ty Try.underlying54 hbc.out
  rw [HS.out] at hlen
  have hlt : c < w'.heap.size := BoxAt.lt ⟨s, r, hbc.out⟩
  have HL := Lib.hid hlt
  have HB : Hid (BoxAt w' c L) := Lib.hid ⟨s, r, hbc.out⟩
  clear hlt hbc HS H
  refine wpN_then fun K hK => ?_
  go_wp2
  refine wpN_seq ?_
  refine wpN_then fun K hK => ?_
  go_wp2
  refine wpN_block ?_
  refine wpN_loop (fun a w1 => ∃ (k : Nat) (u6 u7 u14 u15 u16 u17 u18 u19 u20 u21 u22 u23 : Value), k ≤ L.length ∧ w1.ownsRow w'.heap.size 30 2 u6 k (letsC (L.take k)) ∧ BoxAt w1 c (L.drop k ++ L.take k) ∧ Chg [c] w' w1 ∧
    a = ⟨#[pv, .int .i64 i, undef, undef, .slice none 0 0, .chan (some c), u6, u7, pv, .int .i64 i, .chan (some c), .chan (some c), .int .i64 L.length, .int .i64 k, u14, u15, u16, u17, u18, u19, u20, u21, u22, u23, undef], []⟩)
    (fun a _ => L.length - (intOf (a.tmps.getD 13 undef)).toNat) ?_ ?_
  · exact ⟨0, _, _, _, _, _, _, _, _, _, _, _, _, by omega, World.ownsRow_nil _ _ _ _, by simpa using HB.out, Chg.refl _ _, rfl⟩
  · rintro a w1 ⟨k, u6, u7, u14, u15, u16, u17, u18, u19, u20, u21, u22, u23, hk, hown, hbk, hch, rfl⟩
    have HO := Lib.hid hown
    have HC := Lib.hid hch
    have HK := Lib.hid hbk
    clear hown hch hbk
    by_cases hk2 : k < L.length
    · have d : decide ((k : Int) < (L.length : Int)) = true := by simp; omega
      refine wpN_then fun K hK => ?_
      go_wp2
      refine wpN_then fun K hK => ?_
      go_wp2
      obtain ⟨l, M, hM⟩ : ∃ l M, L.drop k = l :: M := ⟨L[k], L.drop (k + 1), List.drop_eq_getElem_cons hk2⟩
      obtain ⟨s1, r1, hb1⟩ : BoxAt w1 c (l :: (M ++ L.take k)) := by have := HK.out; rw [hM] at this; exact this
      obtain ⟨W1, hW, hsz, hB1, hC1⟩ := recv_mid w1 l (M ++ L.take k) hb1
      have HW := Lib.hid hW
      have HB1 := Lib.hid hB1
      have HC1 := Lib.hid hC1
      have Hb1 := Lib.hid hb1
      have hO1 : Hid (W1.ownsRow w'.heap.size 30 2 u6 k (letsC (L.take k))) := Lib.hid (ownsRow_chg HO.out hC1 (fun x hx hm => by have := (HO.out.lt x hx).1; have := HL.out; simp at hm; omega))
      have HV : Hid ((bufC (l :: (M ++ L.take k))).getD 0 undef = letV l) := Lib.hid (by simp [bufC])
      clear hW hB1 hC1 hb1
      refine wpN_seq ?_
      refine wpN_block ?_
      refine wpN_seq (wpN_region ?_)
      show RegN _ _ _ (0 :: 1 :: List.range' 2 2) _ _
      refine RegN.value (v := .chan (some c)) rfl rfl rfl ?_
      refine RegN.comm (w1 := w1) (w' := W1) (v := letV l) (cases := #[rcase c zV]) rfl rfl ?_ (fun fr cs es hs => by rw [HW.out, ← HV.out]; exact step_lone_recv_buf false hs Hb1.out (by simp [bufC])) ?_
      · unfold zV; kernel_rfl
      refine RegN.from 2 2 rfl ?_
      simp only [List.drop_succ_cons, List.drop_zero, letV]
      clear HK HW Hb1
      go_wp2
      obtain ⟨W2, hW2⟩ : ∃ W2, W2 = W1.alloc (.cells #[.int .i64 l.1, .string l.2] 30) := ⟨_, rfl⟩
      rw [← hW2]
      have hC2 : Chg [] W1 W2 := by rw [hW2]; exact (Chg.refl _ _).alloc _
      have hsz2 : W2.heap.size = w1.heap.size + 1 := by rw [hW2]; simp [hsz]
      have hrow2 : W2.row? w1.heap.size = some #[.int .i64 l.1, .string l.2] := by rw [hW2, row_alloc_at _ _ _ _ hsz.symm]
      have x0 : W2.cell? ⟨w1.heap.size, 0, none⟩ = some (.int .i64 l.1) := by rw [row_cell hrow2]; rfl
      have x1 : W2.cell? ⟨w1.heap.size, 1, none⟩ = some (.string l.2) := by rw [row_cell hrow2]; rfl
      have HO2 : Hid (W2.ownsRow w'.heap.size 30 2 u6 k (letsC (L.take k))) := Lib.hid (ownsRow_chg hO1.out hC2 (fun x hx hm => by simp at hm))
      have HC12 : Hid (Chg [c] w1 W2) := Lib.hid (HC1.out.trans (hC2.mono (by simp)))
      have HB2 : Hid (BoxAt W2 c (M ++ L.take k)) := Lib.hid (HB1.out.keep hC2 (by simp))
      have HR2 := Lib.hid hrow2
      have HU : Hid (∀ x, u6.ownBlock = some x → w'.heap.size ≤ x ∧ x < w1.heap.size) := Lib.hid (fun x hx => HO.out.lt x hx)
      clear hC2 hW2 hO1 HC1 HB1 hrow2 HV HB HO
      obtain ⟨i0, hi0, hz0, hz1, hz2⟩ := info_parts info30
      have hrow3 : (W2.alloc (.cells #[.int .i64 l.1, .string l.2] 30)).row? (w1.heap.size + 1) = some #[.int .i64 l.1, .string l.2] := row_alloc_at _ _ _ _ hsz2.symm
      have HX : Hid (∀ j u, (letC l)[j]? = some u → (W2.alloc (.cells #[.int .i64 l.1, .string l.2] 30)).cell? ((⟨w1.heap.size + 1, 0, none⟩ : Addr).add j) = some u) := by
        refine Lib.hid fun j u hj => ?_
        have := row_cell hrow3 j
        rw [show ((⟨w1.heap.size + 1, 0, none⟩ : Addr).add j) = ⟨w1.heap.size + 1, j, none⟩ by cases j <;> simp [Addr.add], this, ← hj]
        simp [letC]
      have HO3 : Hid ((W2.alloc (.cells #[.int .i64 l.1, .string l.2] 30)).ownsRow w'.heap.size 30 2 u6 k (letsC (L.take k))) := Lib.hid (ownsRow_chg HO2.out ((Chg.refl [] _).alloc _) (fun x hx hm => by simp at hm))
      have HS3 : Hid (w'.heap.size ≤ (W2.alloc (.cells #[.int .i64 l.1, .string l.2] 30)).heap.size) := Lib.hid (by have := HC.out.size; simp; omega)
      have HOne : Hid (∀ u ∈ letC l, u.oneCell' = true) := Lib.hid (by intro u hu; simp [letC] at hu; rcases hu with rfl | rfl <;> rfl)
      have hk4 : k < 4 := by omega
      clear hrow3
      refine wpN_then fun K hK => ?_
      go_wp2_with (at_builtin; refine wpList_append_own _ rfl _ _ 46 rfl w'.heap.size 30 i0 (.agg #[.int .i64 0, .string ⟨#[]⟩]) 2 24 Try.underlying46 hi0 hz0 hz1 hz2 rfl (by decide) u6 k (letsC (L.take k)) rfl HO3.out ⟨w1.heap.size + 1, 0, none⟩ 1 1 (letC l) rfl rfl HX.out HOne.out (by unfold maxLen; omega) (by omega) HS3.out ?_)
      intro v' W4 h1 h2 h3
      clear h3
      have H1 := Lib.hid h1
      have HC4 : Hid (Chg [c] w' W4) := by
        refine Lib.hid ⟨h2.os.trans ?_, h2.tape.trans ?_, h2.output.trans ?_, Nat.le_trans HS3.out h2.size, fun x hx hE => ?_⟩
        · exact (HC.out.trans HC12.out).os
        · exact (HC.out.trans HC12.out).tape
        · exact (HC.out.trans HC12.out).output
        · have hw := HC.out.size
          rw [h2.block x (by simp; omega) (fun hu => by have := (HU.out x hu.symm).1; omega), Below.heap_alloc _ _ _ (by omega)]
          exact (HC.out.trans HC12.out).block x hx hE
      have HR4 : Hid (W4.row? w1.heap.size = some #[.int .i64 l.1, .string l.2]) := by
        refine Lib.hid ?_
        rw [← HR2.out]
        unfold World.row?
        rw [h2.block _ (by simp; omega) (fun hu => by have := (HU.out _ hu.symm).2; omega), Below.heap_alloc _ _ _ (by omega)]
      have HB4 : Hid (BoxAt W4 c (M ++ L.take k)) := by
        have hc := HL.out
        have hw := HC.out.size
        obtain ⟨s2, r2, hb2⟩ := HB2.out
        refine Lib.hid ⟨s2, r2, ?_⟩
        rw [h2.block c (by simp; omega) (fun hu => by have := (HU.out _ hu.symm).1; omega), Below.heap_alloc _ _ _ (by omega)]
        exact hb2
      clear h1 h2 x0 x1 HB2 HC12 HO2 HX HO3 HS3 HOne
      have y0 : W4.cell? ⟨w1.heap.size, 0, none⟩ = some (.int .i64 l.1) := by rw [row_cell HR4.out]; rfl
      have y1 : W4.cell? ⟨w1.heap.size, 1, none⟩ = some (.string l.2) := by rw [row_cell HR4.out]; rfl
      go_wp2
      have HL3 : L.length ≤ 4 := hl
      obtain ⟨s2, r2, hb2⟩ := HB4.out
      have Hb2 := Lib.hid hb2
      have HBs : Hid (BoxAt (W4.setChan c 4 ((bufC (M ++ L.take k)).push (letV l)) false (s2 + 1) r2 false) c (L.drop (k + 1) ++ L.take (k + 1))) := by
        refine Lib.hid ⟨s2 + 1, r2, ?_⟩
        rw [heap_setChan _ _ _ _ _ _ _ _ (BoxAt.lt ⟨s2, r2, hb2⟩)]
        have h1 : L.drop (k + 1) = M := by
          have := congrArg List.tail hM
          simpa using this
        have h2 : L.take (k + 1) = L.take k ++ [l] := by
          have hg : L[k]? = some l := by
            have := congrArg (fun x => x[0]?) hM
            simpa using this
          rw [List.take_add_one, hg]; rfl
        rw [h1, h2]
        simp [bufC]
      have HO5 : Hid ((W4.setChan c 4 ((bufC (M ++ L.take k)).push (letV l)) false (s2 + 1) r2 false).ownsRow w'.heap.size 30 2 v' (k + 1) (letsC (L.take (k + 1)))) := by
        have h2 : L.take (k + 1) = L.take k ++ [l] := by
          have hg : L[k]? = some l := by
            have := congrArg (fun x => x[0]?) hM
            simpa using this
          rw [List.take_add_one, hg]; rfl
        have h3 : letsC (L.take (k + 1)) = letsC (L.take k) ++ letC l := by rw [h2]; simp [letsC]
        rw [h3]
        refine Lib.hid (ownsRow_chg H1.out ((Chg.refl [c] _).setChan (Or.inl (by simp)) _ _ _ _ _ _) (fun x hx hm => ?_))
        have := (H1.out.lt x hx).1
        have := HL.out
        simp at hm; omega
      have HC5 : Hid (Chg [c] w' (W4.setChan c 4 ((bufC (M ++ L.take k)).push (letV l)) false (s2 + 1) r2 false)) := Lib.hid (HC4.out.setChan (Or.inl (by simp)) _ _ _ _ _ _)
      have HN : Hid ((bufC (M ++ L.take k)).size < 4) := by
        refine Lib.hid ?_
        have := congrArg List.length hM
        simp [bufC] at this ⊢
        omega
      clear hb2 H1 HB4 HC4
      refine wpN_region ?_
      show RegN _ _ _ (0 :: 1 :: 2 :: List.range' 3 0) _ _
      refine RegN.value (v := .chan (some c)) rfl rfl rfl ?_
      refine RegN.value (v := letV l) (w' := W4) rfl rfl ?_ ?_
      · unfold letV; go_simp
      refine RegN.comm (w1 := W4) (w' := W4.setChan c 4 ((bufC (M ++ L.take k)).push (letV l)) false (s2 + 1) r2 false) (v := undef) (cases := #[scase c (letV l) undef]) rfl rfl ?_ (fun fr cs es hs => step_lone_send_room hs Hb2.out HN.out) ?_
      · unfold letV; kernel_rfl
      refine RegN.from 3 0 rfl ?_
      generalize W4.setChan c 4 ((bufC (M ++ L.take k)).push (letV l)) false (s2 + 1) r2 false = W5 at *
      simp only [List.drop_succ_cons, List.drop_zero]
      go_wp2
      refine wpN_of_wp ?_
      go_wp2
      refine ⟨⟨k + 1, hk2, v', HO5.out, HBs.out, HC5.out, _, _, _, _, _, _, _, _, _, _, _, rfl⟩, ?_⟩
      show L.length - (intOf (.int .i64 ((k : Int) + 1))).toNat < L.length - (intOf (.int .i64 (k : Int))).toNat
      simp only [intOf]
      omega
    · have d : decide ((k : Int) < (L.length : Int)) = false := by simp; omega
      obtain rfl : k = L.length := by omega
      refine wpN_then fun K hK => ?_
      go_wp2
      refine wpN_then fun K hK => ?_
      go_wp2
      refine wpN_of_wp ?_
      go_wp2
      go_ret
      have := HO.out
      have h2 := HK.out
      simp only [List.drop_length, List.nil_append, List.take_length] at this h2
      exact ⟨_, rfl, this, h2, HC.out⟩
end Go.Proofs.L
