/- Proved here: lemmas and contracts (Runs) for the laws of this seat, for all values of the stated types; no further condition. -/
import Derived.Test.YtlceohlbpgcmpaaDoorRunsLaw
open Go Go.RowKit Go.Lib
namespace Go.Proofs.L
attribute [local irreducible] wpT
theorem own_new {w : World} {base e size n : Nat} {vs : List Value} (hb : base ≤ w.heap.size) (hl : vs.length = n * size) (hm : n ≤ maxLen) : (w.alloc (.cells vs.toArray e)).ownsRow base e size (.slice (some ⟨w.heap.size, 0, none⟩) n n) n vs :=
  ⟨hl, .inr ⟨w.heap.size, n, vs.toArray, rfl, hb, by unfold World.alloc; simp, Nat.le_refl _, hm, by simp [hl], by rw [← hl]; simp⟩⟩
theorem own_row {w : World} {base e size n g cap : Nat} {xs : List Value} (h : w.ownsRow base e size (.slice (some ⟨g, 0, none⟩) n cap) n xs) : ∃ tl : List Value, w.row? g = some (xs ++ tl).toArray ∧ base ≤ g ∧ n ≤ cap := by
  rcases h.2 with ⟨h, _⟩ | ⟨g', cap', cur, hv, hb, hg, h1, h2, h3, h4⟩
  · cases h
  · cases hv
    refine ⟨cur.toList.drop (n * size), ?_, hb, h1⟩
    rw [← h4, List.take_append_drop]
    exact row_iff.2 ⟨e, hg⟩
theorem own_setCell {w : World} {base e size n g cap : Nat} {xs : List Value} (h : w.ownsRow base e size (.slice (some ⟨g, 0, none⟩) n cap) n xs) (j : Nat) (u : Value) : (w.setCell ⟨g, j, none⟩ u).ownsRow base e size (.slice (some ⟨g, 0, none⟩) n cap) n (xs.set j u) := by
  refine ⟨by simpa using h.1, .inr ?_⟩
  rcases h.2 with ⟨h, _⟩ | ⟨g', cap', cur, hv, hb, hg, h1, h2, h3, h4⟩
  · cases h
  · cases hv
    refine ⟨g, cap, cur.setIfInBounds j u, rfl, hb, ?_, h1, h2, by simpa using h3, ?_⟩
    · unfold World.setCell
      simp only [Array.getElem?_modify, ↓reduceIte]
      rw [hg]
      simp
    · rw [← h4, Array.toList_setIfInBounds, List.take_set]
theorem info46 : (Tryd.prog.info? 46).map (fun i => (i.zero, i.size, i.bytes)) = some (some (.int .u64 0), 1, 8) := by kernel_rfl
theorem info48 : (Tryd.prog.info? 48).map (fun i => (i.zero, i.size, i.bytes)) = some (some (.agg #[.int .u64 0, .int .u64 0, .int .i64 0]), 3, 24) := by kernel_rfl
theorem a48 : aggT Tryd.prog 48 3 := aggT_of (by kernel_rfl)
theorem u64L_one (M : List Nat) : ∀ u ∈ u64L M, u.oneCell' = true := by
  intro u hu
  unfold u64L at hu
  obtain ⟨x, _, rfl⟩ := List.mem_map.1 hu
  rfl
theorem u64L_app (A B : List Nat) : u64L (A ++ B) = u64L A ++ u64L B := by simp [u64L]
theorem u64L_len (A : List Nat) : (u64L A).length = A.length := by simp [u64L]
def marksN (X : List Rg3) (k : Nat) : List Nat := [0, 4294967296] ++ (X.take k).flatMap fun x => [min x.1 4294967296, min x.2.1 4294967296]
theorem marksN_len (X : List Rg3) (k : Nat) (h : k ≤ X.length) : (marksN X k).length = 2 + 2 * k := by
  unfold marksN
  induction k with
  | zero => rfl
  | succ k ih =>
    have hk : k < X.length := h
    rw [take_succ' X k _ (List.getElem?_eq_getElem hk), List.flatMap_append]
    have := ih (by omega)
    simp at this ⊢
    omega
theorem marksN_succ (X : List Rg3) (k : Nat) (x : Rg3) (h : X[k]? = some x) : marksN X (k + 1) = marksN X k ++ [min x.1 4294967296, min x.2.1 4294967296] := by
  unfold marksN
  rw [take_succ' X k x h, List.flatMap_append]
  simp
theorem marksN_ok (X : List Rg3) : marksOk X (marksN X X.length) := by
  intro q
  unfold marksN
  rw [List.take_length]
  simp only [List.mem_append, List.mem_cons, List.not_mem_nil, or_false, List.mem_flatMap, or_assoc]
theorem marksN_le (X : List Rg3) (k : Nat) : ∀ x ∈ marksN X k, x ≤ 4294967296 := by
  intro x hx
  unfold marksN at hx
  simp only [List.mem_append, List.mem_cons, List.not_mem_nil, or_false, List.mem_flatMap] at hx
  rcases hx with (rfl | rfl) | ⟨y, _, rfl | rfl⟩ <;> omega
def flatR (R : List Rn) : List Value := R.flatMap fun x => [.int .u64 (x.f : Int), .int .u64 (x.t : Int), .int .i64 x.r]
theorem flatR_len (R : List Rn) : (flatR R).length = R.length * 3 := by
  unfold flatR
  induction R with
  | nil => rfl
  | cons a l ih => rw [List.flatMap_cons, List.length_append, ih, List.length_cons]; simp; omega
theorem flatR_app (A B : List Rn) : flatR (A ++ B) = flatR A ++ flatR B := by unfold flatR; rw [List.flatMap_append]
theorem flatR_one (R : List Rn) : ∀ u ∈ flatR R, u.oneCell' = true := by
  intro u hu
  unfold flatR at hu
  obtain ⟨x, _, hx⟩ := List.mem_flatMap.1 hu
  simp at hx
  rcases hx with rfl | rfl | rfl <;> rfl
theorem flatR_get (R : List Rn) (j : Nat) (x : Rn) (h : R[j]? = some x) (i : Nat) (hi : i < 3) : (flatR R)[j * 3 + i]? = ([.int .u64 (x.f : Int), .int .u64 (x.t : Int), .int .i64 x.r] : List Value)[i]? := by
  unfold flatR
  induction R generalizing j with
  | nil => simp at h
  | cons a l ih =>
    rw [List.flatMap_cons]
    cases j with
    | zero =>
      simp at h
      subst h
      rw [Nat.zero_mul, Nat.zero_add, List.getElem?_append_left (by simp; omega)]
    | succ j =>
      simp at h
      rw [List.getElem?_append_right (by simp; omega), show (j + 1) * 3 + i - ([.int .u64 (a.f : Int), .int .u64 (a.t : Int), .int .i64 a.r] : List Value).length = j * 3 + i by simp; omega]
      exact ih j h
theorem chg_new {E : List Nat} {W w w' : World} (h : Chg [] W w) (h2 : Chg E w w') (hE : ∀ g ∈ E, W.heap.size ≤ g) : Chg [] W w' :=
  ⟨h2.os.trans h.os, h2.tape.trans h.tape, h2.output.trans h.output, Nat.le_trans h.size h2.size, fun k hk _ => (h2.block k (Nat.lt_of_lt_of_le hk h.size) (fun hm => by have := hE k hm; omega)).trans (h.block k hk (by simp))⟩
theorem runsTo_len (X : List Rg3) (M : List Nat) (k : Nat) : (runsTo X M k).length ≤ k := by
  induction k with
  | zero => exact Nat.le_refl _
  | succ k ih =>
    show (stepR _ _ _ _).length ≤ _
    unfold stepR
    split
    · omega
    · split
      · rename_i h
        obtain ⟨x, hx, _⟩ := h
        obtain ⟨R', hR⟩ := List.getLast?_eq_some_iff.1 hx
        rw [hR] at ih ⊢
        simp at ih ⊢
        omega
      · simp; omega
theorem own_base {w : World} {b1 b2 e size n : Nat} {v : Value} {xs : List Value} (h : w.ownsRow b1 e size v n xs) (hb : b2 ≤ b1) : w.ownsRow b2 e size v n xs := by
  refine ⟨h.1, ?_⟩
  rcases h.2 with h | ⟨g, cap, cur, hv, hg, rest⟩
  · exact .inl h
  · exact .inr ⟨g, cap, cur, hv, by omega, rest⟩
/-- what Runs gives back -/
def RunsQ (w : World) (L : List Ent) (e : Ending) (w' : World) : Prop :=
  Chg [] w w' ∧ ∃ M v, M.length = 2 + 2 * L.length ∧ SortTo M M.length ∧ marksOk (rngs 0 L) M ∧ e = .returned v ∧ w'.ownsRow w.heap.size 48 3 v (runsTo (rngs 0 L) M (1 + 2 * L.length)).length (flatR (runsTo (rngs 0 L) M (1 + 2 * L.length)))
set_option maxRecDepth 100000 in
set_option maxHeartbeats 1600000 in
theorem runs_any {w : World} {p : Option Addr} {b o n c : Nat} {L : List Ent} (hE : EntsAt w b o L) (hn : L.length = n) (hp : 0 < n → p = some ⟨b, o, none⟩) (hn6 : n ≤ 40) (hL : LaidOk w) :
    Calls Tryd.prog 17 #[.slice p n c] w (RunsQ w L) := by
  have HE := Lib.hid hE
  have HN := Lib.hid hn
  have HP := Lib.hid hp
  have HN6 := Lib.hid hn6
  have HL := Lib.hid hL
  obtain ⟨i6, hi6, hz60, hz61, hz62⟩ := info_parts info46
  obtain ⟨i8, hi8, hz80, hz81, hz82⟩ := info_parts info48
  clear hE hn hp hn6 hL
  go_enter Tryd.func17, Tryd.ntmps17
  obtain ⟨V, hV⟩ : ∃ V, V = w.alloc (.cells #[.int .u64 0, .int .u64 4294967296] 46) := ⟨_, rfl⟩
  have HO : Hid (V.ownsRow w.heap.size 46 1 (.slice (some ⟨w.heap.size, 0, none⟩) 2 2) 2 (u64L (marksN (rngs 0 L) 0))) := Lib.hid (by
    rw [hV]
    exact own_new (vs := u64L [0, 4294967296]) (Nat.le_refl _) rfl (by unfold maxLen; omega))
  have HC : Hid (Chg [] w V) := Lib.hid (by rw [hV]; exact (Chg.refl _ _).alloc _)
  have HV := Lib.hid hV
  clear hV
  go_wp2_with fail
  rw [← HV.out]
  go_loopw [19, 3, 4, 5, 6] (fun i mv _ _ _ wr => ∃ k : Nat, k ≤ n ∧ i = .int .i64 k ∧ wr.ownsRow w.heap.size 46 1 mv (2 + 2 * k) (u64L (marksN (rngs 0 L) k)) ∧ Chg [] w wr) (fun i _ _ _ _ _ => n - (intOf i).toNat)
  case atStart => exact ⟨0, by omega, rfl, HO.out, HC.out⟩
  case round =>
    obtain ⟨k, hk, rfl, hown, hch⟩ := hrel
    have HO1 := Lib.hid hown
    have HC1 := Lib.hid hch
    clear hown hch
    by_cases hk2 : k < n
    · have HK := Lib.hid hk2
      have HW : Hid (wrap64 ((k : Int) + 1) = ((k + 1 : Nat) : Int)) := Lib.hid (wrap1 k (by have := HN6.out; omega))
      have dk : decide ((k : Int) < (n : Int)) = true := by rw [decide_eq_true_eq]; omega
      have hpp := HP.out (by omega)
      subst hpp
      obtain ⟨e, he⟩ : ∃ e, L[k]? = some e := ⟨_, List.getElem?_eq_getElem (by have := HN.out; omega)⟩
      have HX := Lib.hid (rngs_range he)
      have HRG := Lib.hid (range_any (c := c) (HE.out.keep HC1.out) HN.out k hk2 (by have := HN6.out; omega) (HL.out.keep HC1.out))
      obtain ⟨ra, hra⟩ : ∃ y, y = (rangeN L k).1 := ⟨_, rfl⟩
      obtain ⟨rb, hrb⟩ : ∃ y, y = (rangeN L k).2 := ⟨_, rfl⟩
      rw [← hra, ← hrb] at HRG HX
      obtain ⟨r1, r2⟩ := range_lt HE.out k
      rw [← hra] at r1
      rw [← hrb] at r2
      have HS := Lib.hid (marksN_succ _ _ _ HX.out)
      obtain ⟨ma, hma⟩ : ∃ y, y = min ra 4294967296 := ⟨_, rfl⟩
      obtain ⟨mb, hmb⟩ : ∃ y, y = min rb 4294967296 := ⟨_, rfl⟩
      simp only [] at HS
      rw [← hma, ← hmb] at HS
      clear he hra hrb r1 r2 hk2
      go_wp2_with fail
      refine HRG.out.mono ?_
      rintro e w' ⟨rfl, rfl⟩
      by_cases qa : 4294967296 < ra
      · have HMA : Hid ((ma : Int) = 4294967296) := Lib.hid (by omega)
        by_cases qb : 4294967296 < rb
        · have HMB : Hid ((mb : Int) = 4294967296) := Lib.hid (by omega)
          clear hma hmb
          obtain ⟨b2, hb2⟩ : ∃ b2, b2 = w'.heap.size := ⟨_, rfl⟩
          obtain ⟨w2, hw2⟩ : ∃ V, V = w'.alloc (.cells #[.int .u64 4294967296, .int .u64 4294967296] 46) := ⟨_, rfl⟩
          have hrw : (u64L [ma, mb]).toArray = #[.int .u64 4294967296, .int .u64 4294967296] := by simp [u64L]; exact ⟨HMA.out, HMB.out⟩
          have HROW : Hid (∀ j u, (u64L [ma, mb])[j]? = some u → w2.cell? ((⟨b2, 0, none⟩ : Addr).add j) = some u) := Lib.hid (news_row (by rw [hw2, hrw]; exact row_alloc_at _ _ _ _ hb2))
          have HC2 : Hid (Chg [] w w2) := Lib.hid (by rw [hw2]; exact HC1.out.alloc _)
          have HO2 : Hid (w2.ownsRow w.heap.size 46 1 u3 (2 + 2 * k) (u64L (marksN (rngs 0 L) k))) := Lib.hid (by rw [hw2]; exact HO1.out.alloc _)
          have HB2 := Lib.hid hb2
          have HW2 := Lib.hid hw2
          have HSZ : Hid (w.heap.size ≤ w2.heap.size) := Lib.hid HC2.out.size
          clear hb2 hw2 hrw
          obtain ⟨pm, cm, rfl, _⟩ := own_form HO1.out
          obtain ⟨m0, hm0⟩ : ∃ m, m = 2 + 2 * k := ⟨_, rfl⟩
          have HO3 := HO2
          rw [← hm0] at HO3 ⊢
          have HM0 := Lib.hid hm0
          clear hm0 HO2
          go_upto_region 6 with (fail)
          go_wp2_with (at_builtin; rw [← HB2.out, ← HW2.out]; refine wpList_append_own _ rfl _ _ 55 rfl w.heap.size 46 i6 (.int .u64 0) 1 8 Tryd.underlying55 hi6 hz60 hz61 hz62 rfl (by decide) (.slice pm m0 cm) m0 (u64L (marksN (rngs 0 L) k)) rfl HO3.out ⟨b2, 0, none⟩ 2 2 (u64L [ma, mb]) rfl rfl HROW.out (u64L_one _) (by have := HN6.out; have := HK.out; have := HM0.out; unfold maxLen; omega) (by have := HN6.out; have := HK.out; have := HM0.out; omega) HSZ.out ?_)
          intro v' W5 hx1 hx2 hx3
          clear hx3
          have HC5 : Hid (Chg [] w W5) := Lib.hid (chg_grown HC2.out hx2 (fun x hx => (HO3.out.lt x hx).1))
          have HO5 : Hid (W5.ownsRow w.heap.size 46 1 v' (2 + 2 * (k + 1)) (u64L (marksN (rngs 0 L) (k + 1)))) := Lib.hid (by
            rw [HS.out, u64L_app, show 2 + 2 * (k + 1) = m0 + 2 by have := HM0.out; omega]; exact hx1)
          clear hx1 hx2
          go_wp2
          case roundEnd => exact ⟨⟨k + 1, HK.out, by rw [HW.out], HO5.out, HC5.out⟩, by rw [HW.out]; simp only [intOf, Int.toNat_natCast]; have := HK.out; omega⟩
        · have HMB : Hid ((mb : Int) = (rb : Int)) := Lib.hid (by omega)
          clear hma hmb
          obtain ⟨b2, hb2⟩ : ∃ b2, b2 = w'.heap.size := ⟨_, rfl⟩
          obtain ⟨w2, hw2⟩ : ∃ V, V = w'.alloc (.cells #[.int .u64 4294967296, .int .u64 (rb : Int)] 46) := ⟨_, rfl⟩
          have hrw : (u64L [ma, mb]).toArray = #[.int .u64 4294967296, .int .u64 (rb : Int)] := by simp [u64L]; exact ⟨HMA.out, HMB.out⟩
          have HROW : Hid (∀ j u, (u64L [ma, mb])[j]? = some u → w2.cell? ((⟨b2, 0, none⟩ : Addr).add j) = some u) := Lib.hid (news_row (by rw [hw2, hrw]; exact row_alloc_at _ _ _ _ hb2))
          have HC2 : Hid (Chg [] w w2) := Lib.hid (by rw [hw2]; exact HC1.out.alloc _)
          have HO2 : Hid (w2.ownsRow w.heap.size 46 1 u3 (2 + 2 * k) (u64L (marksN (rngs 0 L) k))) := Lib.hid (by rw [hw2]; exact HO1.out.alloc _)
          have HB2 := Lib.hid hb2
          have HW2 := Lib.hid hw2
          have HSZ : Hid (w.heap.size ≤ w2.heap.size) := Lib.hid HC2.out.size
          clear hb2 hw2 hrw
          obtain ⟨pm, cm, rfl, _⟩ := own_form HO1.out
          obtain ⟨m0, hm0⟩ : ∃ m, m = 2 + 2 * k := ⟨_, rfl⟩
          have HO3 := HO2
          rw [← hm0] at HO3 ⊢
          have HM0 := Lib.hid hm0
          clear hm0 HO2
          go_upto_region 6 with (fail)
          go_wp2_with (at_builtin; rw [← HB2.out, ← HW2.out]; refine wpList_append_own _ rfl _ _ 55 rfl w.heap.size 46 i6 (.int .u64 0) 1 8 Tryd.underlying55 hi6 hz60 hz61 hz62 rfl (by decide) (.slice pm m0 cm) m0 (u64L (marksN (rngs 0 L) k)) rfl HO3.out ⟨b2, 0, none⟩ 2 2 (u64L [ma, mb]) rfl rfl HROW.out (u64L_one _) (by have := HN6.out; have := HK.out; have := HM0.out; unfold maxLen; omega) (by have := HN6.out; have := HK.out; have := HM0.out; omega) HSZ.out ?_)
          intro v' W5 hx1 hx2 hx3
          clear hx3
          have HC5 : Hid (Chg [] w W5) := Lib.hid (chg_grown HC2.out hx2 (fun x hx => (HO3.out.lt x hx).1))
          have HO5 : Hid (W5.ownsRow w.heap.size 46 1 v' (2 + 2 * (k + 1)) (u64L (marksN (rngs 0 L) (k + 1)))) := Lib.hid (by
            rw [HS.out, u64L_app, show 2 + 2 * (k + 1) = m0 + 2 by have := HM0.out; omega]; exact hx1)
          clear hx1 hx2
          go_wp2
          case roundEnd => exact ⟨⟨k + 1, HK.out, by rw [HW.out], HO5.out, HC5.out⟩, by rw [HW.out]; simp only [intOf, Int.toNat_natCast]; have := HK.out; omega⟩
      · have HMA : Hid ((ma : Int) = (ra : Int)) := Lib.hid (by omega)
        by_cases qb : 4294967296 < rb
        · have HMB : Hid ((mb : Int) = 4294967296) := Lib.hid (by omega)
          clear hma hmb
          obtain ⟨b2, hb2⟩ : ∃ b2, b2 = w'.heap.size := ⟨_, rfl⟩
          obtain ⟨w2, hw2⟩ : ∃ V, V = w'.alloc (.cells #[.int .u64 (ra : Int), .int .u64 4294967296] 46) := ⟨_, rfl⟩
          have hrw : (u64L [ma, mb]).toArray = #[.int .u64 (ra : Int), .int .u64 4294967296] := by simp [u64L]; exact ⟨HMA.out, HMB.out⟩
          have HROW : Hid (∀ j u, (u64L [ma, mb])[j]? = some u → w2.cell? ((⟨b2, 0, none⟩ : Addr).add j) = some u) := Lib.hid (news_row (by rw [hw2, hrw]; exact row_alloc_at _ _ _ _ hb2))
          have HC2 : Hid (Chg [] w w2) := Lib.hid (by rw [hw2]; exact HC1.out.alloc _)
          have HO2 : Hid (w2.ownsRow w.heap.size 46 1 u3 (2 + 2 * k) (u64L (marksN (rngs 0 L) k))) := Lib.hid (by rw [hw2]; exact HO1.out.alloc _)
          have HB2 := Lib.hid hb2
          have HW2 := Lib.hid hw2
          have HSZ : Hid (w.heap.size ≤ w2.heap.size) := Lib.hid HC2.out.size
          clear hb2 hw2 hrw
          obtain ⟨pm, cm, rfl, _⟩ := own_form HO1.out
          obtain ⟨m0, hm0⟩ : ∃ m, m = 2 + 2 * k := ⟨_, rfl⟩
          have HO3 := HO2
          rw [← hm0] at HO3 ⊢
          have HM0 := Lib.hid hm0
          clear hm0 HO2
          go_upto_region 6 with (fail)
          go_wp2_with (at_builtin; rw [← HB2.out, ← HW2.out]; refine wpList_append_own _ rfl _ _ 55 rfl w.heap.size 46 i6 (.int .u64 0) 1 8 Tryd.underlying55 hi6 hz60 hz61 hz62 rfl (by decide) (.slice pm m0 cm) m0 (u64L (marksN (rngs 0 L) k)) rfl HO3.out ⟨b2, 0, none⟩ 2 2 (u64L [ma, mb]) rfl rfl HROW.out (u64L_one _) (by have := HN6.out; have := HK.out; have := HM0.out; unfold maxLen; omega) (by have := HN6.out; have := HK.out; have := HM0.out; omega) HSZ.out ?_)
          intro v' W5 hx1 hx2 hx3
          clear hx3
          have HC5 : Hid (Chg [] w W5) := Lib.hid (chg_grown HC2.out hx2 (fun x hx => (HO3.out.lt x hx).1))
          have HO5 : Hid (W5.ownsRow w.heap.size 46 1 v' (2 + 2 * (k + 1)) (u64L (marksN (rngs 0 L) (k + 1)))) := Lib.hid (by
            rw [HS.out, u64L_app, show 2 + 2 * (k + 1) = m0 + 2 by have := HM0.out; omega]; exact hx1)
          clear hx1 hx2
          go_wp2
          case roundEnd => exact ⟨⟨k + 1, HK.out, by rw [HW.out], HO5.out, HC5.out⟩, by rw [HW.out]; simp only [intOf, Int.toNat_natCast]; have := HK.out; omega⟩
        · have HMB : Hid ((mb : Int) = (rb : Int)) := Lib.hid (by omega)
          clear hma hmb
          obtain ⟨b2, hb2⟩ : ∃ b2, b2 = w'.heap.size := ⟨_, rfl⟩
          obtain ⟨w2, hw2⟩ : ∃ V, V = w'.alloc (.cells #[.int .u64 (ra : Int), .int .u64 (rb : Int)] 46) := ⟨_, rfl⟩
          have hrw : (u64L [ma, mb]).toArray = #[.int .u64 (ra : Int), .int .u64 (rb : Int)] := by simp [u64L]; exact ⟨HMA.out, HMB.out⟩
          have HROW : Hid (∀ j u, (u64L [ma, mb])[j]? = some u → w2.cell? ((⟨b2, 0, none⟩ : Addr).add j) = some u) := Lib.hid (news_row (by rw [hw2, hrw]; exact row_alloc_at _ _ _ _ hb2))
          have HC2 : Hid (Chg [] w w2) := Lib.hid (by rw [hw2]; exact HC1.out.alloc _)
          have HO2 : Hid (w2.ownsRow w.heap.size 46 1 u3 (2 + 2 * k) (u64L (marksN (rngs 0 L) k))) := Lib.hid (by rw [hw2]; exact HO1.out.alloc _)
          have HB2 := Lib.hid hb2
          have HW2 := Lib.hid hw2
          have HSZ : Hid (w.heap.size ≤ w2.heap.size) := Lib.hid HC2.out.size
          clear hb2 hw2 hrw
          obtain ⟨pm, cm, rfl, _⟩ := own_form HO1.out
          obtain ⟨m0, hm0⟩ : ∃ m, m = 2 + 2 * k := ⟨_, rfl⟩
          have HO3 := HO2
          rw [← hm0] at HO3 ⊢
          have HM0 := Lib.hid hm0
          clear hm0 HO2
          go_upto_region 6 with (fail)
          go_wp2_with (at_builtin; rw [← HB2.out, ← HW2.out]; refine wpList_append_own _ rfl _ _ 55 rfl w.heap.size 46 i6 (.int .u64 0) 1 8 Tryd.underlying55 hi6 hz60 hz61 hz62 rfl (by decide) (.slice pm m0 cm) m0 (u64L (marksN (rngs 0 L) k)) rfl HO3.out ⟨b2, 0, none⟩ 2 2 (u64L [ma, mb]) rfl rfl HROW.out (u64L_one _) (by have := HN6.out; have := HK.out; have := HM0.out; unfold maxLen; omega) (by have := HN6.out; have := HK.out; have := HM0.out; omega) HSZ.out ?_)
          intro v' W5 hx1 hx2 hx3
          clear hx3
          have HC5 : Hid (Chg [] w W5) := Lib.hid (chg_grown HC2.out hx2 (fun x hx => (HO3.out.lt x hx).1))
          have HO5 : Hid (W5.ownsRow w.heap.size 46 1 v' (2 + 2 * (k + 1)) (u64L (marksN (rngs 0 L) (k + 1)))) := Lib.hid (by
            rw [HS.out, u64L_app, show 2 + 2 * (k + 1) = m0 + 2 by have := HM0.out; omega]; exact hx1)
          clear hx1 hx2
          go_wp2
          case roundEnd => exact ⟨⟨k + 1, HK.out, by rw [HW.out], HO5.out, HC5.out⟩, by rw [HW.out]; simp only [intOf, Int.toNat_natCast]; have := HK.out; omega⟩
    · have hkn : k = n := by omega
      subst hkn
      have dk : decide ((k : Int) < (k : Int)) = false := by simp
      have hX : (rngs 0 L).length = k := by rw [rngs_len]; exact HN.out
      obtain ⟨N, hN⟩ : ∃ N, N = 2 + 2 * k := ⟨_, rfl⟩
      rw [← hN] at HO1
      obtain ⟨pm, cm, rfl, hpm⟩ := own_form HO1.out
      obtain ⟨g, rfl, _⟩ := hpm (by omega)
      obtain ⟨tl, hrow, hg, hcap⟩ := own_row HO1.out
      have hml : (marksN (rngs 0 L) k).length = N := by rw [marksN_len _ _ (by omega), hN]
      have hS := sort_any hrow hml (by have := HN6.out; omega) (marksN_le _ _) hcap
      have HS := Lib.hid hS
      have HGB := Lib.hid hg
      have HXL := Lib.hid hX
      have HNN := Lib.hid hN
      clear hrow hml hS hcap hX hg hpm hN
      go_wp2_with fail
      refine HS.out.mono ?_
      rintro e w2 ⟨rfl, M, hr2, hl2, hm2, hs2, hc2⟩
      have HC2 : Hid (Chg [] w w2) := Lib.hid (chg_new HC1.out hc2 (by simp; exact HGB.out))
      have HR2 := Lib.hid hr2
      have HL2 := Lib.hid hl2
      have HMO : Hid (marksOk (rngs 0 L) M) := Lib.hid (fun q => (hm2 q).trans (by
        have := marksN_ok (rngs 0 L) q
        rwa [HXL.out] at this))
      have HS2 : Hid (SortTo M M.length) := Lib.hid (by rw [hl2]; exact hs2)
      have HE2 := Lib.hid (HE.out.keep HC2.out)
      have HLL := Lib.hid (HL.out.keep HC2.out)
      clear hr2 hl2 hm2 hs2 hc2 HS
      go_wp2_with fail
      go_loopw [7, 8, 9, 10, 11, 12, 13, 14, 15] (fun ov i _ _ _ _ _ _ _ wr => ∃ q T : Nat, T = q + 1 ∧ T ≤ N ∧ i = .int .i64 T ∧ wr.ownsRow w2.heap.size 48 3 ov (runsTo (rngs 0 L) M q).length (flatR (runsTo (rngs 0 L) M q)) ∧ Chg [] w2 wr) (fun _ i _ _ _ _ _ _ _ _ => N - (intOf i).toNat)
      case atStart => exact ⟨0, 1, rfl, by have := HNN.out; omega, rfl, World.ownsRow_nil _ _ _ _, Chg.refl _ _⟩
      case round =>
        obtain ⟨q, T, hT, hTN, rfl, hown, hch⟩ := hrel
        have HT := Lib.hid hT
        have HOQ := Lib.hid hown
        have HCQ := Lib.hid hch
        clear hown hch
        by_cases hk3 : T < N
        · have HKT := Lib.hid hk3
          have hN82 : N ≤ 82 := by have := HNN.out; have := HN6.out; omega
          have HWT : Hid (wrap64 ((T : Int) + 1) = ((T + 1 : Nat) : Int)) := Lib.hid (wrap1 T (by omega))
          have dT : decide ((T : Int) < (N : Int)) = true := by rw [decide_eq_true_eq]; omega
          have gw2 : IntKind.i64.wrap ((T : Int) - 1) = (q : Int) := by rw [IntKind.wrap_i64]; omega
          have hqN : q < N := by omega
          have HRW : Hid (wr.row? g = some (u64L M ++ tl).toArray) := Lib.hid (by rw [HCQ.out.row (row_lt HR2.out) (by simp)]; exact HR2.out)
          obtain ⟨am, ham⟩ : ∃ u, u = M.getD q 0 := ⟨_, rfl⟩
          obtain ⟨bm, hbm⟩ : ∃ u, u = M.getD T 0 := ⟨_, rfl⟩
          have c0 : wr.cell? ⟨g, q, none⟩ = some (.int .u64 (am : Int)) := by rw [row_cell HRW.out, u64L_get _ _ _ (by have := HL2.out; omega), ham]
          have c1 : wr.cell? ⟨g, T, none⟩ = some (.int .u64 (bm : Int)) := by rw [row_cell HRW.out, u64L_get _ _ _ (by have := HL2.out; omega), hbm]
          have HAM := Lib.hid ham
          have HBM := Lib.hid hbm
          have HMQ : Hid ((runsTo (rngs 0 L) M q).length ≤ 100) := Lib.hid (by have := runsTo_len (rngs 0 L) M q; omega)
          clear hT ham hbm hTN hN82
          go_upto_region 13 with (fail)
          refine wp_region_C (fun w' => w'.cell? ⟨g, q, none⟩ = some (.int .u64 (am : Int)) ∧ w'.cell? ⟨g, T, none⟩ = some (.int .u64 (bm : Int))) [(0, 0), (1, 0), (2, 0), (3, 0), (4, 1), (5, 0), (6, 0), (7, 0), (8, 1), (9, 0), (10, 0)] rfl (by kernel_rfl) ?hSA ?hTA
          case hSA => exact ⟨c0, c1⟩
          refine wpT_pureD (v := ?_) (some 44) rfl rfl (by rfl) (fun w' => ?_) ?_
          rotate_left
          · (go_simp; try with_reducible rfl)
          try simp only [Act.put, List.setIfInBounds_toArray, List.set_cons_zero, List.set_cons_succ]
          refine wpT_pureD (v := ?_) (some 45) rfl rfl (by rfl) (fun w' => ?_) ?_
          rotate_left
          · (go_simp; try with_reducible rfl)
          try simp only [Act.put, List.setIfInBounds_toArray, List.set_cons_zero, List.set_cons_succ]
          refine wpT_pureD (v := ?_) (some 46) rfl rfl (by rfl) (fun w' => ?_) ?_
          rotate_left
          · (go_simp; try with_reducible rfl)
          try simp only [Act.put, List.setIfInBounds_toArray, List.set_cons_zero, List.set_cons_succ]
          refine wpT_pureD (v := ?_) (some 47) rfl rfl (by rfl) (fun w' => ?_) ?_
          rotate_left
          · (go_simp; try with_reducible rfl)
          try simp only [Act.put, List.setIfInBounds_toArray, List.set_cons_zero, List.set_cons_succ]
          refine wpT_readD (v := ?_) (some 48) rfl rfl (by rfl) (fun w' hw => ?_) ?_
          rotate_left
          · (obtain ⟨q0, q1⟩ := hw; go_simp; try with_reducible rfl)
          try simp only [Act.put, List.setIfInBounds_toArray, List.set_cons_zero, List.set_cons_succ]
          refine wpT_pureD (v := ?_) (some 49) rfl rfl (by rfl) (fun w' => ?_) ?_
          rotate_left
          · (go_simp; try with_reducible rfl)
          try simp only [Act.put, List.setIfInBounds_toArray, List.set_cons_zero, List.set_cons_succ]
          refine wpT_pureD (v := ?_) (some 50) rfl rfl (by rfl) (fun w' => ?_) ?_
          rotate_left
          · (go_simp; try with_reducible rfl)
          try simp only [Act.put, List.setIfInBounds_toArray, List.set_cons_zero, List.set_cons_succ]
          refine wpT_pureD (v := ?_) (some 51) rfl rfl (by rfl) (fun w' => ?_) ?_
          rotate_left
          · (go_simp; try with_reducible rfl)
          try simp only [Act.put, List.setIfInBounds_toArray, List.set_cons_zero, List.set_cons_succ]
          refine wpT_readD (v := ?_) (some 52) rfl rfl (by rfl) (fun w' hw => ?_) ?_
          rotate_left
          · (obtain ⟨q0, q1⟩ := hw; go_simp; try with_reducible rfl)
          try simp only [Act.put, List.setIfInBounds_toArray, List.set_cons_zero, List.set_cons_succ]
          refine wpT_pureD (v := ?_) (some 9) rfl rfl (by rfl) (fun w' => ?_) ?_
          rotate_left
          · (go_simp; try with_reducible rfl)
          try simp only [Act.put, List.setIfInBounds_toArray, List.set_cons_zero, List.set_cons_succ]
          refine wpT_pureD (v := ?_) (some 10) rfl rfl (by rfl) (fun w' => ?_) ?_
          rotate_left
          · (go_simp; try with_reducible rfl)
          try simp only [Act.put, List.setIfInBounds_toArray, List.set_cons_zero, List.set_cons_succ]
          refine wpT_end ?_
          obtain ⟨wo, hwo⟩ : ∃ W, W = wr.drew := ⟨_, rfl⟩
          rw [← hwo]
          have HCO : Hid (Chg [] w2 wo) := Lib.hid (by rw [hwo]; exact HCQ.out.drew)
          have HOO0 : Hid (wo.ownsRow w2.heap.size 48 3 u7 (runsTo (rngs 0 L) M q).length (flatR (runsTo (rngs 0 L) M q))) := Lib.hid (by rw [hwo]; exact HOQ.out.drew)
          clear hwo c0 c1 gw2 hqN hk3 HOQ HCQ HRW
          by_cases hne : am = bm
          · have HST : Hid (runsTo (rngs 0 L) M (q + 1) = runsTo (rngs 0 L) M q) := Lib.hid (by
              show stepR _ _ _ _ = _
              rw [← HAM.out, ← HT.out, ← HBM.out]
              unfold stepR
              rw [if_pos (.inl hne)])
            have d1 : ((am : Int) == (bm : Int)) = true := by rw [beq_iff_eq]; omega
            clear hne
            go_wp2
            case roundEnd => exact ⟨⟨q + 1, T + 1, by have := HT.out; omega, HKT.out, by rw [HWT.out], by rw [HST.out]; exact HOO0.out, HCO.out⟩, by rw [HWT.out]; simp only [intOf, Int.toNat_natCast]; have := HKT.out; omega⟩
          have d1 : ((am : Int) == (bm : Int)) = false := by rw [Bool.eq_false_iff]; simp; omega
          have HNE := Lib.hid hne
          obtain ⟨r, hr⟩ : ∃ r, r = rgtX (rngs 0 L) am bm := ⟨_, rfl⟩
          have HR := Lib.hid hr
          clear hne hr
          go_upto_block 4 with (fail)
          go_cut [11, 12, 13, 14] (fun o _ _ _ wx => o = .int .i64 r ∧ wx = wo)
          case first =>
            go_wp2_with fail
            go_loopw [58, 11, 12, 13, 14] (fun j o _ _ _ wx => ∃ t : Nat, t ≤ k ∧ j = .int .i64 t ∧ o = .int .i64 0 ∧ wx = wo ∧ r = rgtX ((rngs 0 L).drop t) am bm) (fun j _ _ _ _ _ => k - (intOf j).toNat)
            case atStart => exact ⟨0, by omega, rfl, rfl, rfl, HR.out⟩
            case round =>
              obtain ⟨t, ht, rfl, rfl, hwx, hrt⟩ := hrel
              obtain rfl := hwx.symm
              have HRT := Lib.hid hrt
              clear hrt
              by_cases ht2 : t < k
              · have HTK := Lib.hid ht2
                have HWI : Hid (wrap64 ((t : Int) + 1) = ((t + 1 : Nat) : Int)) := Lib.hid (wrap1 t (by have := HN6.out; omega))
                have dt : decide ((t : Int) < (k : Int)) = true := by rw [decide_eq_true_eq]; omega
                have htI : (t : Int) < (k : Int) := by omega
                have hpp := HP.out (by omega)
                subst hpp
                obtain ⟨e, he⟩ : ∃ e, L[t]? = some e := ⟨_, List.getElem?_eq_getElem (by have := HN.out; omega)⟩
                have hx := rngs_range he
                have hl2 : t < (rngs 0 L).length := by have := HXL.out; omega
                have HRG := Lib.hid (range_any (c := c) (HE2.out.keep HCO.out) HN.out t ht2 (by have := HN6.out; omega) (HLL.out.keep HCO.out))
                obtain ⟨ra, hra⟩ : ∃ y, y = (rangeN L t).1 := ⟨_, rfl⟩
                obtain ⟨rb, hrb⟩ : ∃ y, y = (rangeN L t).2 := ⟨_, rfl⟩
                rw [← hra, ← hrb] at HRG hx
                have hdrop : (rngs 0 L).drop t = (ra, rb, e.rights) :: (rngs 0 L).drop (t + 1) := by
                  rw [List.drop_eq_getElem_cons hl2]
                  rw [List.getElem?_eq_getElem hl2] at hx
                  rw [Option.some.inj hx]
                obtain ⟨er, her⟩ : ∃ r, r = e.rights := ⟨_, rfl⟩
                have ce := ((HE2.out.keep HCO.out) t e he).c1
                rw [← her] at hdrop ce
                have HD : Hid (r = if ra ≤ am ∧ bm ≤ rb then er else rgtX ((rngs 0 L).drop (t + 1)) am bm) := Lib.hid (by rw [HRT.out, hdrop]; rfl)
                clear hra hrb her hx hdrop hl2 he ht2
                go_wp2_with fail
                refine HRG.out.mono ?_
                rintro e' w' ⟨rfl, hw'⟩
                obtain rfl := hw'.symm
                by_cases g1 : ra ≤ am
                · have dg1 : decide ((ra : Int) ≤ (am : Int)) = true := by rw [decide_eq_true_eq]; omega
                  by_cases g2 : bm ≤ rb
                  · have dg2 : decide ((bm : Int) ≤ (rb : Int)) = true := by rw [decide_eq_true_eq]; omega
                    have HRE : Hid (r = er) := Lib.hid (by rw [HD.out, if_pos ⟨g1, g2⟩])
                    go_wp2_with fail
                    go_meet
                    exact ⟨by rw [HRE.out], rfl⟩
                  · have dg2 : decide ((bm : Int) ≤ (rb : Int)) = false := by rw [decide_eq_false_iff_not]; omega
                    have HRE : Hid (r = rgtX ((rngs 0 L).drop (t + 1)) am bm) := Lib.hid (by rw [HD.out, if_neg (by omega)])
                    go_wp2_with fail
                    refine ⟨⟨t + 1, HTK.out, by rw [HWI.out], by first | rfl | trivial, by first | rfl | trivial, HRE.out⟩, by rw [HWI.out]; simp only [intOf, Int.toNat_natCast]; have := HTK.out; omega⟩
                · have dg1 : decide ((ra : Int) ≤ (am : Int)) = false := by rw [decide_eq_false_iff_not]; omega
                  have HRE : Hid (r = rgtX ((rngs 0 L).drop (t + 1)) am bm) := Lib.hid (by rw [HD.out, if_neg (by omega)])
                  go_wp2_with fail
                  refine ⟨⟨t + 1, HTK.out, by rw [HWI.out], by first | rfl | trivial, by first | rfl | trivial, HRE.out⟩, by rw [HWI.out]; simp only [intOf, Int.toNat_natCast]; have := HTK.out; omega⟩
              · have htk : t = k := by omega
                have dt : decide ((t : Int) < (k : Int)) = false := by rw [decide_eq_false_iff_not]; omega
                have HR00 : Hid (r = 0) := Lib.hid (by rw [HRT.out, List.drop_eq_nil_of_le (by have := HXL.out; omega)]; rfl)
                clear htk
                go_wp2_with fail
                go_meet
                exact ⟨by rw [HR00.out], rfl⟩
          case rest =>
            obtain ⟨rfl, hwx⟩ := hcut
            obtain rfl := hwx.symm
            obtain ⟨po, co, rfl, hpo⟩ := own_form HOO0.out
            obtain ⟨m0, hm0⟩ : ∃ m, m = (runsTo (rngs 0 L) M q).length := ⟨_, rfl⟩
            have HOO := HOO0
            rw [← hm0] at HOO HMQ hpo ⊢
            have HM0 := Lib.hid hm0
            clear hm0 HOO0
            by_cases hr0 : r = 0
            · have HST : Hid (runsTo (rngs 0 L) M (q + 1) = runsTo (rngs 0 L) M q) := Lib.hid (by
                show stepR _ _ _ _ = _
                rw [← HAM.out, ← HT.out, ← HBM.out, ← HR.out]
                unfold stepR
                rw [if_pos (.inr hr0)])
              have d2 : (r == 0) = true := by rw [beq_iff_eq]; exact hr0
              have HR00 := Lib.hid hr0
              clear hr0 hpo
              go_wp2
              case roundEnd => exact ⟨⟨q + 1, T + 1, by have := HT.out; omega, HKT.out, by rw [HWT.out], by rw [HST.out, ← HM0.out]; exact HOO.out, HCO.out⟩, by rw [HWT.out]; simp only [intOf, Int.toNat_natCast]; have := HKT.out; omega⟩
            have d2 : (r == 0) = false := by rw [Bool.eq_false_iff]; simp; exact hr0
            have HR0 : Hid (¬ r = 0) := Lib.hid hr0
            clear hr0
            by_cases hm1 : m0 = 0
            · have dm : decide ((0 : Int) < (m0 : Int)) = false := by rw [decide_eq_false_iff_not]; omega
              have hmn : ¬ 0 < m0 := by omega
              have HNM : Hid (¬ ∃ x, (runsTo (rngs 0 L) M q).getLast? = some x ∧ x.t = am ∧ x.r = r) := Lib.hid (by
                have : runsTo (rngs 0 L) M q = [] := List.length_eq_zero_iff.1 (HM0.out ▸ hm1)
                rw [this]; rintro ⟨x, h, _⟩; cases h)
              clear hm1 hpo
              have hstep : runsTo (rngs 0 L) M (q + 1) = runsTo (rngs 0 L) M q ++ [⟨am, bm, r⟩] := by
                show stepR _ _ _ _ = _
                rw [← HAM.out, ← HT.out, ← HBM.out, ← HR.out]
                unfold stepR
                rw [if_neg (by rintro (h | h); exact HNE.out h; exact HR0.out h), if_neg HNM.out]
              obtain ⟨b5, hb5⟩ : ∃ b2, b2 = wo.heap.size := ⟨_, rfl⟩
              obtain ⟨w5, hw5⟩ : ∃ V, V = wo.alloc (.cells #[.int .u64 (am : Int), .int .u64 (bm : Int), .int .i64 r] 48) := ⟨_, rfl⟩
              have HROW : Hid (∀ j u, (flatR [⟨am, bm, r⟩])[j]? = some u → w5.cell? ((⟨b5, 0, none⟩ : Addr).add j) = some u) := Lib.hid (news_row (by rw [hw5]; exact row_alloc_at _ _ _ _ hb5))
              have HC5 : Hid (Chg [] w2 w5) := Lib.hid (by rw [hw5]; exact HCO.out.alloc _)
              have HO5 : Hid (w5.ownsRow w2.heap.size 48 3 (.slice po m0 co) m0 (flatR (runsTo (rngs 0 L) M q))) := Lib.hid (by rw [hw5]; exact HOO.out.alloc _)
              have HB5 := Lib.hid hb5
              have HW5 := Lib.hid hw5
              have HSZ5 : Hid (w2.heap.size ≤ w5.heap.size) := Lib.hid HC5.out.size
              have HSTEP := Lib.hid hstep
              clear hb5 hw5 hstep
              go_upto_region 27 with (fail)
              go_wp2_with (at_builtin; rw [← HB5.out, ← HW5.out]; refine wpList_append_own _ rfl _ _ 44 rfl w2.heap.size 48 i8 (.agg #[.int .u64 0, .int .u64 0, .int .i64 0]) 3 24 Tryd.underlying44 hi8 hz80 hz81 hz82 rfl (by decide) (.slice po m0 co) m0 (flatR (runsTo (rngs 0 L) M q)) rfl HO5.out ⟨b5, 0, none⟩ 1 1 (flatR [⟨am, bm, r⟩]) rfl rfl HROW.out (flatR_one _) (by have := HMQ.out; unfold maxLen; omega) (by have := HMQ.out; omega) HSZ5.out ?_)
              intro v' W5 hx1 hx2 hx3
              clear hx3
              have HC6 : Hid (Chg [] w2 W5) := Lib.hid (chg_grown HC5.out hx2 (fun x hx => (HO5.out.lt x hx).1))
              have HO6 : Hid (W5.ownsRow w2.heap.size 48 3 v' (runsTo (rngs 0 L) M (q + 1)).length (flatR (runsTo (rngs 0 L) M (q + 1)))) := Lib.hid (by
                rw [HSTEP.out, flatR_app, List.length_append, ← HM0.out]; exact hx1)
              clear hx1 hx2
              go_wp2
              case roundEnd => exact ⟨⟨q + 1, T + 1, by have := HT.out; omega, HKT.out, by rw [HWT.out], HO6.out, HC6.out⟩, by rw [HWT.out]; simp only [intOf, Int.toNat_natCast]; have := HKT.out; omega⟩
            have hm2 : 0 < m0 := by omega
            have dm : decide ((0 : Int) < (m0 : Int)) = true := by rw [decide_eq_true_eq]; omega
            obtain ⟨g2, rfl, hgb⟩ := hpo hm2
            obtain ⟨R', l, hRl⟩ : ∃ R' l, runsTo (rngs 0 L) M q = R' ++ [l] := by
              rcases List.eq_nil_or_concat (runsTo (rngs 0 L) M q) with h | ⟨R', l, h⟩
              · have := HM0.out; rw [h] at this; simp at this; omega
              · exact ⟨R', l, by rw [h, List.concat_eq_append]⟩
            have hl1 : R'.length + 1 = m0 := by rw [HM0.out, hRl]; simp
            have hlast : (runsTo (rngs 0 L) M q)[R'.length]? = some l := by rw [hRl]; simp
            have c1 : wo.cell? ⟨g2, R'.length * 3 + 1, none⟩ = some (.int .u64 (l.t : Int)) := cellsAt HOO.out hgb _ _ (by rw [flatR_get _ _ _ hlast 1 (by omega)]; rfl)
            have c2 : wo.cell? ⟨g2, R'.length * 3 + 2, none⟩ = some (.int .i64 l.r) := cellsAt HOO.out hgb _ _ (by rw [flatR_get _ _ _ hlast 2 (by omega)]; rfl)
            have hfz : wo.frozen? ⟨g2, R'.length * 3 + 1, none⟩ = false := by
              obtain ⟨tl2, hrw, _⟩ := own_row HOO.out
              exact row_free hrw _
            obtain ⟨m3, hm3⟩ : ∃ m, m = R'.length := ⟨_, rfl⟩
            rw [← hm3] at c1 c2 hl1 hfz
            have gw3 : IntKind.i64.wrap ((m0 : Int) - 1) = (m3 : Int) := by rw [IntKind.wrap_i64]; have := HMQ.out; omega
            have gw4 : wrap64 ((m0 : Int) - 1) = (m3 : Int) := by rw [IntWalk.wrap64_in _ ⟨by omega, by have := HMQ.out; omega⟩]; omega
            have hm03 : m3 < m0 := by omega
            have HM3 := Lib.hid hm3
            have HRL := Lib.hid hRl
            have HL1 := Lib.hid hl1
            clear hm1 hpo hlast hm3 hRl hl1 hgb
            by_cases k1 : l.t = am
            · by_cases k2 : l.r = r
              · have dk1 : ((l.t : Int) == (am : Int)) = true := by rw [beq_iff_eq]; omega
                have dk2 : (l.r == r) = true := by rw [beq_iff_eq]; exact k2
                have hstep : runsTo (rngs 0 L) M (q + 1) = R' ++ [⟨l.f, bm, r⟩] := by
                  show stepR _ _ _ _ = _
                  rw [← HAM.out, ← HT.out, ← HBM.out, ← HR.out]
                  unfold stepR
                  rw [if_neg (by rintro (h | h); exact HNE.out h; exact HR0.out h), HRL.out, if_pos ⟨l, by simp, k1, k2⟩]
                  simp
                have hset : (flatR (runsTo (rngs 0 L) M q)).set (m3 * 3 + 1) (.int .u64 (bm : Int)) = flatR (runsTo (rngs 0 L) M (q + 1)) := by
                  rw [hstep, HRL.out, flatR_app, flatR_app, List.set_append_right _ _ (by rw [flatR_len, ← HM3.out]; omega), flatR_len, ← HM3.out, show m3 * 3 + 1 - m3 * 3 = 1 by omega]
                  show _ ++ ([.int .u64 (l.f : Int), .int .u64 (bm : Int), .int .i64 l.r] : List Value) = _ ++ ([.int .u64 (l.f : Int), .int .u64 (bm : Int), .int .i64 r] : List Value)
                  rw [k2]
                have hlen : (runsTo (rngs 0 L) M (q + 1)).length = m0 := by rw [hstep, HM0.out, HRL.out]; simp
                have HO6 : Hid ((wo.setCell ⟨g2, m3 * 3 + 1, none⟩ (.int .u64 (bm : Int))).ownsRow w2.heap.size 48 3 (.slice (some ⟨g2, 0, none⟩) m0 co) (runsTo (rngs 0 L) M (q + 1)).length (flatR (runsTo (rngs 0 L) M (q + 1)))) := Lib.hid (by
                  rw [hlen, ← hset]; exact own_setCell HOO.out _ _)
                have HC6 : Hid (Chg [] w2 (wo.setCell ⟨g2, m3 * 3 + 1, none⟩ (.int .u64 (bm : Int)))) := Lib.hid (HCO.out.setCell (.inr (HOO.out.lt g2 rfl).1) _)
                clear hstep hset hlen k1 k2
                go_wp2
                case roundEnd => exact ⟨⟨q + 1, T + 1, by have := HT.out; omega, HKT.out, by rw [HWT.out], HO6.out, HC6.out⟩, by rw [HWT.out]; simp only [intOf, Int.toNat_natCast]; have := HKT.out; omega⟩
              · have dk1 : ((l.t : Int) == (am : Int)) = true := by rw [beq_iff_eq]; omega
                have dk2 : (l.r == r) = false := by rw [Bool.eq_false_iff]; simp; exact k2
                have HNM : Hid (¬ ∃ x, (runsTo (rngs 0 L) M q).getLast? = some x ∧ x.t = am ∧ x.r = r) := Lib.hid (by
                  rw [HRL.out]; rintro ⟨x, h, _, h2⟩; simp at h; subst h; exact k2 h2)
                have hstep : runsTo (rngs 0 L) M (q + 1) = runsTo (rngs 0 L) M q ++ [⟨am, bm, r⟩] := by
                  show stepR _ _ _ _ = _
                  rw [← HAM.out, ← HT.out, ← HBM.out, ← HR.out]
                  unfold stepR
                  rw [if_neg (by rintro (h | h); exact HNE.out h; exact HR0.out h), if_neg HNM.out]
                obtain ⟨b5, hb5⟩ : ∃ b2, b2 = wo.heap.size := ⟨_, rfl⟩
                obtain ⟨w5, hw5⟩ : ∃ V, V = wo.alloc (.cells #[.int .u64 (am : Int), .int .u64 (bm : Int), .int .i64 r] 48) := ⟨_, rfl⟩
                have HROW : Hid (∀ j u, (flatR [⟨am, bm, r⟩])[j]? = some u → w5.cell? ((⟨b5, 0, none⟩ : Addr).add j) = some u) := Lib.hid (news_row (by rw [hw5]; exact row_alloc_at _ _ _ _ hb5))
                have HC5 : Hid (Chg [] w2 w5) := Lib.hid (by rw [hw5]; exact HCO.out.alloc _)
                have HO5 : Hid (w5.ownsRow w2.heap.size 48 3 (.slice (some ⟨g2, 0, none⟩) m0 co) m0 (flatR (runsTo (rngs 0 L) M q))) := Lib.hid (by rw [hw5]; exact HOO.out.alloc _)
                have HB5 := Lib.hid hb5
                have HW5 := Lib.hid hw5
                have HSZ5 : Hid (w2.heap.size ≤ w5.heap.size) := Lib.hid HC5.out.size
                have HSTEP := Lib.hid hstep
                clear hb5 hw5 hstep
                go_upto_region 27 with (fail)
                go_wp2_with (at_builtin; rw [← HB5.out, ← HW5.out]; refine wpList_append_own _ rfl _ _ 44 rfl w2.heap.size 48 i8 (.agg #[.int .u64 0, .int .u64 0, .int .i64 0]) 3 24 Tryd.underlying44 hi8 hz80 hz81 hz82 rfl (by decide) (.slice (some ⟨g2, 0, none⟩) m0 co) m0 (flatR (runsTo (rngs 0 L) M q)) rfl HO5.out ⟨b5, 0, none⟩ 1 1 (flatR [⟨am, bm, r⟩]) rfl rfl HROW.out (flatR_one _) (by have := HMQ.out; unfold maxLen; omega) (by have := HMQ.out; omega) HSZ5.out ?_)
                intro v' W5 hx1 hx2 hx3
                clear hx3
                have HC6 : Hid (Chg [] w2 W5) := Lib.hid (chg_grown HC5.out hx2 (fun x hx => (HO5.out.lt x hx).1))
                have HO6 : Hid (W5.ownsRow w2.heap.size 48 3 v' (runsTo (rngs 0 L) M (q + 1)).length (flatR (runsTo (rngs 0 L) M (q + 1)))) := Lib.hid (by
                  rw [HSTEP.out, flatR_app, List.length_append, ← HM0.out]; exact hx1)
                clear hx1 hx2
                go_wp2
                case roundEnd => exact ⟨⟨q + 1, T + 1, by have := HT.out; omega, HKT.out, by rw [HWT.out], HO6.out, HC6.out⟩, by rw [HWT.out]; simp only [intOf, Int.toNat_natCast]; have := HKT.out; omega⟩
            · have dk1 : ((l.t : Int) == (am : Int)) = false := by rw [Bool.eq_false_iff]; simp; omega
              have HNM : Hid (¬ ∃ x, (runsTo (rngs 0 L) M q).getLast? = some x ∧ x.t = am ∧ x.r = r) := Lib.hid (by
                rw [HRL.out]; rintro ⟨x, h, h2, _⟩; simp at h; subst h; exact k1 h2)
              have hstep : runsTo (rngs 0 L) M (q + 1) = runsTo (rngs 0 L) M q ++ [⟨am, bm, r⟩] := by
                show stepR _ _ _ _ = _
                rw [← HAM.out, ← HT.out, ← HBM.out, ← HR.out]
                unfold stepR
                rw [if_neg (by rintro (h | h); exact HNE.out h; exact HR0.out h), if_neg HNM.out]
              obtain ⟨b5, hb5⟩ : ∃ b2, b2 = wo.heap.size := ⟨_, rfl⟩
              obtain ⟨w5, hw5⟩ : ∃ V, V = wo.alloc (.cells #[.int .u64 (am : Int), .int .u64 (bm : Int), .int .i64 r] 48) := ⟨_, rfl⟩
              have HROW : Hid (∀ j u, (flatR [⟨am, bm, r⟩])[j]? = some u → w5.cell? ((⟨b5, 0, none⟩ : Addr).add j) = some u) := Lib.hid (news_row (by rw [hw5]; exact row_alloc_at _ _ _ _ hb5))
              have HC5 : Hid (Chg [] w2 w5) := Lib.hid (by rw [hw5]; exact HCO.out.alloc _)
              have HO5 : Hid (w5.ownsRow w2.heap.size 48 3 (.slice (some ⟨g2, 0, none⟩) m0 co) m0 (flatR (runsTo (rngs 0 L) M q))) := Lib.hid (by rw [hw5]; exact HOO.out.alloc _)
              have HB5 := Lib.hid hb5
              have HW5 := Lib.hid hw5
              have HSZ5 : Hid (w2.heap.size ≤ w5.heap.size) := Lib.hid HC5.out.size
              have HSTEP := Lib.hid hstep
              clear hb5 hw5 hstep
              go_upto_region 27 with (fail)
              go_wp2_with (at_builtin; rw [← HB5.out, ← HW5.out]; refine wpList_append_own _ rfl _ _ 44 rfl w2.heap.size 48 i8 (.agg #[.int .u64 0, .int .u64 0, .int .i64 0]) 3 24 Tryd.underlying44 hi8 hz80 hz81 hz82 rfl (by decide) (.slice (some ⟨g2, 0, none⟩) m0 co) m0 (flatR (runsTo (rngs 0 L) M q)) rfl HO5.out ⟨b5, 0, none⟩ 1 1 (flatR [⟨am, bm, r⟩]) rfl rfl HROW.out (flatR_one _) (by have := HMQ.out; unfold maxLen; omega) (by have := HMQ.out; omega) HSZ5.out ?_)
              intro v' W5 hx1 hx2 hx3
              clear hx3
              have HC6 : Hid (Chg [] w2 W5) := Lib.hid (chg_grown HC5.out hx2 (fun x hx => (HO5.out.lt x hx).1))
              have HO6 : Hid (W5.ownsRow w2.heap.size 48 3 v' (runsTo (rngs 0 L) M (q + 1)).length (flatR (runsTo (rngs 0 L) M (q + 1)))) := Lib.hid (by
                rw [HSTEP.out, flatR_app, List.length_append, ← HM0.out]; exact hx1)
              clear hx1 hx2
              go_wp2
              case roundEnd => exact ⟨⟨q + 1, T + 1, by have := HT.out; omega, HKT.out, by rw [HWT.out], HO6.out, HC6.out⟩, by rw [HWT.out]; simp only [intOf, Int.toNat_natCast]; have := HKT.out; omega⟩
        · have hTe : T = N := by omega
          have dT : decide ((T : Int) < (N : Int)) = false := by rw [decide_eq_false_iff_not]; omega
          have hfin : w2.heap.size ≤ wr.heap.size := HCQ.out.size
          have HQQ : Hid (q = 1 + 2 * L.length) := Lib.hid (by have := HNN.out; have := HN.out; omega)
          clear hTe hT
          go_wp2
          go_ret
          have hb0 : w.heap.size ≤ w2.heap.size := HC2.out.size
          refine ⟨HC2.out.trans HCQ.out, M, _, ?_, HS2.out, HMO.out, rfl, ?_⟩
          · rw [HL2.out, HNN.out, HN.out]
          · rw [← HQQ.out]; exact own_base HOQ.out hb0
end Go.Proofs.L
