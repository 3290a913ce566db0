/- Proved here: lemmas and contracts (RunsWalk) for the laws of this seat, for all values of the stated types; no further condition. -/
import Derived.Test.YteikhmabgnpljaaBoth
open Go Go.RowKit Go.Lib Go.Conc
namespace Go.Proofs.L
theorem hmk37 (n : Nat) (h1 : 1 ≤ n) (h4 : n ≤ 4) (w : World) : (Instr.makeSlice 37 (.int .i64 (n : Int)) (.int .i64 (n : Int))).run Try.prog w = .ok (.slice (some ⟨w.heap.size, 0, none⟩) n n) (w.alloc (.cells (Array.replicate n (.slice none 0 0)) 48)) := by
  have h : n = 1 ∨ n = 2 ∨ n = 3 ∨ n = 4 := by omega
  rcases h with rfl | rfl | rfl | rfl
  · have e : ∀ w, (Instr.makeSlice 37 (.int .i64 1) (.int .i64 1)).run Try.prog w = .ok (.slice (some ⟨w.heap.size, 0, none⟩) 1 1) (w.alloc (.cells #[.slice none 0 0] 48)) := fun _ => by kernel_rfl
    exact e w
  · have e : ∀ w, (Instr.makeSlice 37 (.int .i64 2) (.int .i64 2)).run Try.prog w = .ok (.slice (some ⟨w.heap.size, 0, none⟩) 2 2) (w.alloc (.cells #[.slice none 0 0, .slice none 0 0] 48)) := fun _ => by kernel_rfl
    exact e w
  · have e : ∀ w, (Instr.makeSlice 37 (.int .i64 3) (.int .i64 3)).run Try.prog w = .ok (.slice (some ⟨w.heap.size, 0, none⟩) 3 3) (w.alloc (.cells #[.slice none 0 0, .slice none 0 0, .slice none 0 0] 48)) := fun _ => by kernel_rfl
    exact e w
  · have e : ∀ w, (Instr.makeSlice 37 (.int .i64 4) (.int .i64 4)).run Try.prog w = .ok (.slice (some ⟨w.heap.size, 0, none⟩) 4 4) (w.alloc (.cells #[.slice none 0 0, .slice none 0 0, .slice none 0 0, .slice none 0 0] 48)) := fun _ => by kernel_rfl
    exact e w
theorem rp_new (w : World) (n : Nat) (h1 : 1 ≤ n) (h4 : n ≤ 4) (t1 t2 : Nat) : Rp ((w.alloc (.cells (Array.replicate n (.slice none 0 0)) t1)).alloc (.cells #[.slice (some ⟨w.heap.size, 0, none⟩) n n] t2)) (w.heap.size + 1) w.heap.size (List.replicate n (.slice none 0 0)) (List.replicate n []) := by
  refine ⟨?_, ?_, by simp, fun i hi => ?_, fun i j hi hj _ k hk => ?_, fun i hi k hk => ?_, by omega, by simpa using h1, by simpa using h4, fun L hL => ?_⟩
  · rw [row_alloc_at _ _ _ _ (by simp)]; simp
  · rw [row_alloc_past _ _ _ (by simp), row_alloc_at _ _ _ _ rfl]; simp
  · have : i < n := by simpa using hi
    simp only [List.getElem_replicate, List.getD_eq_getElem?_getD, List.getElem?_replicate, this, if_true, Option.getD_some]
    exact win_nil _ _
  · simp [Value.ownBlock] at hk
  · simp [Value.ownBlock] at hk
  · obtain ⟨_, rfl⟩ := List.mem_replicate.1 hL
    simp
theorem both_new {w0 w1 : World} {n : Nat} {v : Value} {C : List Nat} (h1 : 1 ≤ n) (h4 : n ≤ 4) (hI : NewInv w0 w1 n v C) (t1 t2 : Nat) {N : Nat} (hN : N ≤ w0.heap.size) :
    BothE N (w1.heap.size + 2) ((w1.alloc (.cells (Array.replicate n (.slice none 0 0)) t1)).alloc (.cells #[.slice (some ⟨w1.heap.size, 0, none⟩) n n] t2)) n w0.heap.size (w1.heap.size + 1) := by
  obtain ⟨g, cap, hP⟩ := hI.po h1 h4
  have hlt := hP.lt
  have hr := rp_new w1 n h1 h4 t1 t2
  have hg : w0.heap.size ≤ g := by
    rcases Nat.lt_or_ge g w0.heap.size with h | h
    · rcases hI.own.2 with ⟨hv, hn⟩ | ⟨g', cap', cur, hv, hb, -⟩
      · omega
      · have := hP.row
        rw [hI.row, hv] at this
        injection this with this
        injection this with this
        injection this with this
        injection this with this
        injection this with this
        injection this with this
        omega
    · exact h
  have hc : Chg [] w1 ((w1.alloc (.cells (Array.replicate n (.slice none 0 0)) t1)).alloc (.cells #[.slice (some ⟨w1.heap.size, 0, none⟩) n n] t2)) := ((Chg.refl _ _).alloc _).alloc _
  refine ⟨g, cap, C, w1.heap.size, _, _, ⟨hP.keep hc (by simp), hr, hI.len, by simp, fun k hk hm => ?_⟩, fun k hk => ⟨?_, ?_⟩, fun k hk => ?_⟩
  · have := hlt k hk
    rcases mem_fpR.1 hm with rfl | rfl | ⟨i, hi, hk⟩
    · omega
    · omega
    · simp [Value.ownBlock] at hk
  · simp only [fpP, List.mem_cons] at hk
    rcases hk with rfl | rfl | hk
    · exact hN
    · omega
    · have := (hI.box k hk).2; omega
  · have := hlt k hk; omega
  · have hz := row_lt hI.row
    rcases mem_fpR.1 hk with rfl | rfl | ⟨i, hi, hk⟩
    · omega
    · omega
    · simp [Value.ownBlock] at hk
theorem letsC_get0 : ∀ (L : List (Int × ByteArray)) (j : Nat) (h : j < L.length), (letsC L)[j * 2]? = some (.int .i64 L[j].1)
  | x :: L, 0, _ => rfl
  | x :: L, j + 1, h => by
    have := letsC_get0 L j (by simpa using h)
    rw [show (j + 1) * 2 = j * 2 + 2 from by omega]
    simpa [letsC, letC] using this
theorem letsC_get1 : ∀ (L : List (Int × ByteArray)) (j : Nat) (h : j < L.length), (letsC L)[j * 2 + 1]? = some (.string L[j].2)
  | x :: L, 0, _ => rfl
  | x :: L, j + 1, h => by
    have := letsC_get1 L j (by simpa using h)
    rw [show (j + 1) * 2 + 1 = j * 2 + 1 + 2 from by omega]
    simpa [letsC, letC] using this
set_option maxRecDepth 100000 in
set_option maxHeartbeats 6400000 in
theorem runs_walk (n : Nat) (h1 : 1 ≤ n) (h4 : n ≤ 4) (sb so len cap0 : Nat) (p : Option Addr) (hlen : len ≤ 300) (w : World) (hp : 0 < len → p = some ⟨sb, so, none⟩)
    (hcell : ∀ k, k < len → ∃ (kd bx fr : Int) (t : ByteArray), w.cell? ⟨sb, so + k * 4, none⟩ = some (.int .i64 kd) ∧ w.cell? ⟨sb, so + k * 4 + 1, none⟩ = some (.int .i64 bx) ∧ w.cell? ⟨sb, so + k * 4 + 2, none⟩ = some (.int .i64 fr) ∧ w.cell? ⟨sb, so + k * 4 + 3, none⟩ = some (.string t)) :
    Calls Try.prog 4 #[.int .i64 (n : Int), .slice p len cap0] w fun e w' => e = .returned (.bool true) ∧ Below w.heap.size w w' := by
  have dn1 : decide ((n : Int) < 1) = false := by simp; omega
  have dn2 : decide ((n : Int) > 4) = false := by simp; omega
  have dl : decide ((len : Int) > 300) = false := by simp; omega
  have dl2 : decide (300 < (len : Int)) = false := by simp; omega
  have HC := Lib.hid hcell
  have HP := Lib.hid hp
  clear hcell hp
  go_enter Try.func4, Try.ntmps4
  go_wp2_with fail
  refine (fit_ok w).mono ?_
  rintro e w0 ⟨rfl, hB0⟩
  have HB0 := Lib.hid hB0
  have hmk := hmk37 n h1 h4
  clear hB0
  go_wp2_with fail
  refine (new_ok n h1 h4 w0).mono ?_
  rintro e w1 ⟨rfl, v, C0, hI⟩
  have hbE := both_new h1 h4 hI 48 39 HB0.out.size
  have HB1 : Hid (Below w.heap.size w w1) := Lib.hid (HB0.out.trans (hI.below.mono HB0.out.size))
  have HE := Lib.hid hbE
  clear hI hbE HB0
  generalize w0.heap.size = pb at *
  go_wp2_with fail
  obtain ⟨W2, hW2⟩ : ∃ W2, W2 = (w1.alloc (.cells (Array.replicate n (.slice none 0 0)) 48)).alloc (.cells #[.slice (some ⟨w1.heap.size, 0, none⟩) n n] 39) := ⟨_, rfl⟩
  rw [← hW2]
  have HE2 : Hid (BothE w.heap.size W2.heap.size W2 n pb (w1.heap.size + 1)) := Lib.hid (by rw [hW2]; exact HE.out.up)
  have HW2 : Hid (Below w.heap.size w W2) := Lib.hid (by rw [hW2]; exact (HB1.out.alloc HB1.out.size _).alloc (by have := HB1.out.size; simp; omega) _)
  clear hW2 hmk HE HB1
  generalize w1.heap.size + 1 = rb at *
  go_loopw [46] (fun i wr => ∃ k : Nat, k ≤ len ∧ i = .int .i64 k ∧ BothE w.heap.size wr.heap.size wr n pb rb ∧ Below w.heap.size w wr) (fun i _ => len - (intOf i).toNat)
  case atStart => exact ⟨0, Nat.zero_le _, rfl, HE2.out, HW2.out⟩
  case round =>
    obtain ⟨k, hk, rfl, hb, hw⟩ := hrel
    obtain ⟨wo, rfl⟩ : ∃ wo : World, wo = wr := ⟨_, rfl⟩
    have HB := Lib.hid hb
    have HW := Lib.hid hw
    clear hb hw
    by_cases hlt : k < len
    · obtain ⟨kd, bx, fr, t, c0, c1, c2, c3⟩ := HC.out k hlt
      have hsb := World.block_lt_of_cell? w _ c0
      have hpp := HP.out (by omega)
      subst hpp
      have s0 : wo.cell? ⟨sb, so + k * 4, none⟩ = some (.int .i64 kd) := (HW.out.cell (p := ⟨sb, so + k * 4, none⟩) hsb).trans c0
      have s1 : wo.cell? ⟨sb, so + k * 4 + 1, none⟩ = some (.int .i64 bx) := (HW.out.cell (p := ⟨sb, so + k * 4 + 1, none⟩) hsb).trans c1
      have s2 : wo.cell? ⟨sb, so + k * 4 + 2, none⟩ = some (.int .i64 fr) := (HW.out.cell (p := ⟨sb, so + k * 4 + 2, none⟩) hsb).trans c2
      have s3 : wo.cell? ⟨sb, so + k * 4 + 3, none⟩ = some (.string t) := (HW.out.cell (p := ⟨sb, so + k * 4 + 3, none⟩) hsb).trans c3
      clear c0 c1 c2 c3
      go_upto_block 2 with (fail)
      obtain ⟨W3, hW3⟩ : ∃ W3, W3 = wo.alloc (.cells #[.int .i64 kd, .int .i64 bx, .int .i64 fr, .string t] 41) := ⟨_, rfl⟩
      rw [← hW3]
      have p0 : W3.cell? ⟨wo.heap.size, 0, none⟩ = some (.int .i64 kd) := by rw [hW3]; go_simp
      have p1 : W3.cell? ⟨wo.heap.size, 1, none⟩ = some (.int .i64 bx) := by rw [hW3]; go_simp
      have p2 : W3.cell? ⟨wo.heap.size, 2, none⟩ = some (.int .i64 fr) := by rw [hW3]; go_simp
      have p3 : W3.cell? ⟨wo.heap.size, 3, none⟩ = some (.string t) := by rw [hW3]; go_simp
      have hz3 : wo.heap.size < W3.heap.size := by rw [hW3]; simp
      have hb3 : BothE w.heap.size wo.heap.size W3 n pb rb := by rw [hW3]; exact HB.out.keep ((Chg.refl [] _).alloc _) (by simp)
      have hw3 : Below w.heap.size w W3 := by rw [hW3]; exact HW.out.alloc HW.out.size _
      have HB3 := Lib.hid hb3
      have HB3d := Lib.hid hb3.drew
      have HW3 := Lib.hid hw3
      clear hW3 hb3 hw3 s0 s1 s2 s3
      go_cut [] (fun wx => BothE w.heap.size wx.heap.size wx n pb rb ∧ Below w.heap.size w wx)
      case first =>
        by_cases k0 : kd = 0
        · subst k0
          go_wp2_with fail
          refine wp_region_C (fun w' => w'.cell? ⟨wo.heap.size, 1, none⟩ = some (.int .i64 bx) ∧ w'.cell? ⟨wo.heap.size, 2, none⟩ = some (.int .i64 fr) ∧ w'.cell? ⟨wo.heap.size, 3, none⟩ = some (.string t)) [(0, 0), (1, 0), (2, 1), (3, 0), (4, 1), (5, 0), (6, 1), (7, 0), (9, 0), (10, 0), (11, 1), (12, 0), (13, 1), (14, 0), (15, 1), (16, 0), (8, 2), (17, 2), (18, 0)] rfl (by kernel_rfl) ?hS15 ?hT15
          case hS15 => exact ⟨by go_simp, by go_simp, by go_simp⟩
          refine wpT_pureD (v := ?_) (some 58) rfl rfl (by rfl) (fun w' => ?_) ?_
          rotate_left
          · (go_simp; try with_reducible rfl)
          try simp only [Act.put, List.setIfInBounds_toArray, List.set_cons_zero, List.set_cons_succ]
          refine wpT_pureD (v := ?_) (some 59) rfl rfl (by rfl) (fun w' => ?_) ?_
          rotate_left
          · (go_simp; try with_reducible rfl)
          try simp only [Act.put, List.setIfInBounds_toArray, List.set_cons_zero, List.set_cons_succ]
          refine wpT_readD (v := ?_) (some 60) rfl rfl (by rfl) (fun w' hw => ?_) ?_
          rotate_left
          · (obtain ⟨q0, q1, q2⟩ := hw; go_simp; try with_reducible rfl)
          try simp only [Act.put, List.setIfInBounds_toArray, List.set_cons_zero, List.set_cons_succ]
          refine wpT_pureD (v := ?_) (some 61) rfl rfl (by rfl) (fun w' => ?_) ?_
          rotate_left
          · (go_simp; try with_reducible rfl)
          try simp only [Act.put, List.setIfInBounds_toArray, List.set_cons_zero, List.set_cons_succ]
          refine wpT_readD (v := ?_) (some 62) rfl rfl (by rfl) (fun w' hw => ?_) ?_
          rotate_left
          · (obtain ⟨q0, q1, q2⟩ := hw; go_simp; try with_reducible rfl)
          try simp only [Act.put, List.setIfInBounds_toArray, List.set_cons_zero, List.set_cons_succ]
          refine wpT_pureD (v := ?_) (some 63) rfl rfl (by rfl) (fun w' => ?_) ?_
          rotate_left
          · (go_simp; try with_reducible rfl)
          try simp only [Act.put, List.setIfInBounds_toArray, List.set_cons_zero, List.set_cons_succ]
          refine wpT_readD (v := ?_) (some 64) rfl rfl (by rfl) (fun w' hw => ?_) ?_
          rotate_left
          · (obtain ⟨q0, q1, q2⟩ := hw; go_simp; try with_reducible rfl)
          try simp only [Act.put, List.setIfInBounds_toArray, List.set_cons_zero, List.set_cons_succ]
          refine wpT_pureD (v := ?_) (some 65) rfl rfl (by rfl) (fun w' => ?_) ?_
          rotate_left
          · (go_simp; try with_reducible rfl)
          try simp only [Act.put, List.setIfInBounds_toArray, List.set_cons_zero, List.set_cons_succ]
          refine wpT_pureD (v := ?_) (some 67) rfl rfl (by rfl) (fun w' => ?_) ?_
          rotate_left
          · (go_simp; try with_reducible rfl)
          try simp only [Act.put, List.setIfInBounds_toArray, List.set_cons_zero, List.set_cons_succ]
          refine wpT_pureD (v := ?_) (some 68) rfl rfl (by rfl) (fun w' => ?_) ?_
          rotate_left
          · (go_simp; try with_reducible rfl)
          try simp only [Act.put, List.setIfInBounds_toArray, List.set_cons_zero, List.set_cons_succ]
          refine wpT_readD (v := ?_) (some 69) rfl rfl (by rfl) (fun w' hw => ?_) ?_
          rotate_left
          · (obtain ⟨q0, q1, q2⟩ := hw; go_simp; try with_reducible rfl)
          try simp only [Act.put, List.setIfInBounds_toArray, List.set_cons_zero, List.set_cons_succ]
          refine wpT_pureD (v := ?_) (some 70) rfl rfl (by rfl) (fun w' => ?_) ?_
          rotate_left
          · (go_simp; try with_reducible rfl)
          try simp only [Act.put, List.setIfInBounds_toArray, List.set_cons_zero, List.set_cons_succ]
          refine wpT_readD (v := ?_) (some 71) rfl rfl (by rfl) (fun w' hw => ?_) ?_
          rotate_left
          · (obtain ⟨q0, q1, q2⟩ := hw; go_simp; try with_reducible rfl)
          try simp only [Act.put, List.setIfInBounds_toArray, List.set_cons_zero, List.set_cons_succ]
          refine wpT_pureD (v := ?_) (some 72) rfl rfl (by rfl) (fun w' => ?_) ?_
          rotate_left
          · (go_simp; try with_reducible rfl)
          try simp only [Act.put, List.setIfInBounds_toArray, List.set_cons_zero, List.set_cons_succ]
          refine wpT_readD (v := ?_) (some 73) rfl rfl (by rfl) (fun w' hw => ?_) ?_
          rotate_left
          · (obtain ⟨q0, q1, q2⟩ := hw; go_simp; try with_reducible rfl)
          try simp only [Act.put, List.setIfInBounds_toArray, List.set_cons_zero, List.set_cons_succ]
          refine wpT_pureD (v := ?_) (some 74) rfl rfl (by rfl) (fun w' => ?_) ?_
          rotate_left
          · (go_simp; try with_reducible rfl)
          try simp only [Act.put, List.setIfInBounds_toArray, List.set_cons_zero, List.set_cons_succ]
          refine wpT_eff rfl (by rfl) (fun K hK => ?_)
          go_wp2_with fail
          refine (send_both HB3d.out bx (fr, t)).mono ?_
          rintro e w4 ⟨r, rfl, hF4, hC4⟩
          have q4 : w4.cell? ⟨wo.heap.size, 1, none⟩ = some (.int .i64 bx) := (hF4.cell (b := wo.heap.size) (Nat.le_refl _) (by go_simp) 1).trans (by go_simp)
          have q5 : w4.cell? ⟨wo.heap.size, 2, none⟩ = some (.int .i64 fr) := (hF4.cell (b := wo.heap.size) (Nat.le_refl _) (by go_simp) 2).trans (by go_simp)
          have q6 : w4.cell? ⟨wo.heap.size, 3, none⟩ = some (.string t) := (hF4.cell (b := wo.heap.size) (Nat.le_refl _) (by go_simp) 3).trans (by go_simp)
          have HF4 := Lib.hid hF4
          have HC4 := Lib.hid hC4
          clear hF4 hC4
          unfold letV at HC4
          go_wp2_with fail
          refine hK _ _ ⟨q4, q5, q6⟩ ?_
          clear hK K
          try simp only [Act.put, List.setIfInBounds_toArray, List.set_cons_zero, List.set_cons_succ]
          refine wpT_eff rfl (by rfl) (fun K hK => ?_)
          go_wp2_with fail
          refine HC4.out.mono ?_
          rintro e w5 ⟨rfl, hB5, hF5⟩
          have q7 : w5.cell? ⟨wo.heap.size, 1, none⟩ = some (.int .i64 bx) := (hF5.cell (b := wo.heap.size) (Nat.le_refl _) (by go_simp) 1).trans (by go_simp)
          have q8 : w5.cell? ⟨wo.heap.size, 2, none⟩ = some (.int .i64 fr) := (hF5.cell (b := wo.heap.size) (Nat.le_refl _) (by go_simp) 2).trans (by go_simp)
          have q9 : w5.cell? ⟨wo.heap.size, 3, none⟩ = some (.string t) := (hF5.cell (b := wo.heap.size) (Nat.le_refl _) (by go_simp) 3).trans (by go_simp)
          have HF5 := Lib.hid hF5
          have HB5 := Lib.hid hB5
          clear hF5 hB5
          go_wp2_with fail
          refine hK _ _ ⟨q7, q8, q9⟩ ?_
          clear hK K
          try simp only [Act.put, List.setIfInBounds_toArray, List.set_cons_zero, List.set_cons_succ]
          refine wpT_pureD (v := ?_) (some 76) rfl rfl (by rfl) (fun w' => ?_) ?_
          rotate_left
          · (go_simp; try with_reducible rfl)
          try simp only [Act.put, List.setIfInBounds_toArray, List.set_cons_zero, List.set_cons_succ]
          refine wpT_end ?_
          go_wp2_with fail
          go_meet
          exact ⟨HB5.out, (FrameP.drewL HF5.out).belowW HW3.out⟩
        · by_cases k1 : kd = 1
          · subst k1
            clear k0
            go_wp2_with fail
            refine (take_both HB3.out bx).mono ?_
            rintro e w4 ⟨l, r, rfl, hF4, hC4⟩
            have q1 : w4.cell? ⟨wo.heap.size, 1, none⟩ = some (.int .i64 bx) := (hF4.cell (b := wo.heap.size) (Nat.le_refl _) hz3 1).trans p1
            have hz4 : wo.heap.size < w4.heap.size := by obtain ⟨fp, h1, h2⟩ := hF4; have := h1.size; omega
            have HC4 := Lib.hid (hC4 (w4.alloc (.cells #[.int .i64 l.1, .string l.2] 30)) ((Chg.refl _ _).alloc _))
            clear hF4 hC4
            unfold letV
            go_wp2_with fail
            refine HC4.out.mono ?_
            rintro e w5 ⟨rfl, hB5, hF5, hF5'⟩
            have q4 : w5.cell? ⟨w4.heap.size, 0, none⟩ = some (.int .i64 l.1) := (hF5'.cell (b := w4.heap.size) (by omega) (by simp) 0).trans (by go_simp)
            have q5 : w5.cell? ⟨w4.heap.size, 1, none⟩ = some (.string l.2) := (hF5'.cell (b := w4.heap.size) (by omega) (by simp) 1).trans (by go_simp)
            have hz5 : w4.heap.size < w5.heap.size := World.block_lt_of_cell? w5 _ q4
            have HB5 := Lib.hid hB5
            have HF5 := Lib.hid hF5
            clear hB5 hF5 hF5'
            unfold letV
            go_wp2_with fail
            go_meet
            exact ⟨(HB5.out.keep ((Chg.refl [] _).alloc _) (by simp)).up, (HF5.out.trans (.ofNil ((Chg.refl [] _).alloc _))).belowW HW3.out⟩
          · have e0 : (kd == 0) = false := by simpa using k0
            have e1 : (kd == 1) = false := by simpa using k1
            clear k0 k1
            go_wp2_with fail
            refine (all_both HB3.out bx).mono ?_
            rintro e w4 ⟨v, rfl, hB4, hF4⟩
            have HB4 := Lib.hid hB4
            have HF4 := Lib.hid hF4
            clear hB4 hF4
            go_wp2_with fail
            go_meet
            exact ⟨HB4.out, HF4.out.belowW HW3.out⟩
      case rest =>
        obtain ⟨hb6, hw6⟩ := hcut
        obtain ⟨g, cap, C, rg, V, B, hB, hn1, hn2⟩ := hb6
        have hvl := hB.vl
        have hcl := hB.cl
        have HB6 := Lib.hid hB
        have HN1 := Lib.hid hn1
        have HN2 := Lib.hid hn2
        have HW6 := Lib.hid hw6
        clear hw6 hB hn1 hn2 p0 p1 p2 p3 HB3 HB3d HW3 HB HW
        have hwz : w.heap.size ≤ wc.heap.size := HW6.out.size
        go_wp2_with fail
        go_loopw [14] (fun i wr => ∃ z : Int, -1 ≤ z ∧ z ≤ n + 1 ∧ i = .int .i64 z ∧ Both wr n pb g cap C rb rg V B ∧ Below w.heap.size w wr) (fun i _ => ((n : Int) + 1 - intOf i).toNat)
        case atStart => exact ⟨-1, by omega, by omega, rfl, HB6.out, HW6.out⟩
        case round =>
          obtain ⟨z, hz1, hz2, rfl, hBz, hWz⟩ := hrel
          obtain ⟨wi, rfl⟩ : ∃ wi : World, wi = wr := ⟨_, rfl⟩
          have HBz := Lib.hid hBz
          have HWz := Lib.hid hWz
          clear hBz hWz
          by_cases hzn : z ≤ n
          · by_cases hr : 0 ≤ z ∧ z < n
            · obtain ⟨q, rfl⟩ := Int.eq_ofNat_of_zero_le hr.1
              have hqn : q < n := by omega
              have hqV : q < V.length := by omega
              have hqC : q < C.length := by omega
              have m0 := HBz.out.r.c0
              have m1 := HBz.out.r.ci q hqV
              rw [hvl] at m0
              obtain ⟨pw, cw, hv, -⟩ := (HBz.out.r.win q hqV).form
              rw [hv] at m1
              have h4L := HBz.out.p.getL q hqC
              have HA := Lib.hid (all_in HBz.out.p q hqC)
              obtain ⟨L, hL⟩ : ∃ L, L = B.getD q [] := ⟨_, rfl⟩
              rw [← hL] at m1 h4L HA hv
              obtain ⟨m, hm⟩ : ∃ m, m = L.length := ⟨_, rfl⟩
              rw [← hm] at m1 h4L HA hv
              have HL := Lib.hid hL
              have HM := Lib.hid hm
              have HV := Lib.hid hv
              have hlt1 := World.block_lt_of_cell? wi _ m0
              have hlt2 := World.block_lt_of_cell? wi _ m1
              clear hv hL hm
              go_wp2_with fail
              refine HA.out.mono ?_
              rintro e w7 ⟨v7, rfl, ho7, hp7, hc7⟩
              obtain ⟨pa, ca, rfl, hpa⟩ := own_form ho7
              have f1 : C[q] ∈ fpP pb g C := by simp [fpP]
              have hr7 : Rp w7 rb rg V B := HBz.out.r.keep hc7 (fun j hj hm => by simp at hm; subst hm; exact HBz.out.apart _ f1 hj)
              have HB7 : Hid (Both w7 n pb g cap C rb rg V B) := Lib.hid ⟨hp7, hr7, HBz.out.cl, HBz.out.vl, HBz.out.apart⟩
              have HW7 : Hid (Below w.heap.size w w7) := Lib.hid (chg_below HWz.out hc7 (by simp; exact (HN1.out _ f1).1) HWz.out.size)
              have HO7 := Lib.hid ho7
              have HPA := Lib.hid hpa
              have hcnt := count_in hp7 q hqC
              rw [← HL.out, ← HM.out] at hcnt
              have HCn := Lib.hid hcnt
              clear ho7 hp7 hc7 hpa hr7 f1 hcnt HA
              go_wp2_with fail
              refine HCn.out.mono ?_
              rintro e w8 ⟨rfl, rfl⟩
              by_cases hz0 : m = 0
              · subst hz0
                go_wp2_with fail
                go_loopw [138] (fun i wr => i = .int .i64 0 ∧ wr = w8) (fun _ _ => 0)
                case atStart => exact ⟨rfl, rfl⟩
                case round =>
                  obtain ⟨rfl, rfl⟩ := hrel
                  go_wp2_with fail
                  go_roundw
                  case rel => exact ⟨(q : Int) + 1, by omega, by omega, by go_num, HB7.out.keep (Chg.refl [] _) (by simp) (by simp), chg_below HW7.out (Chg.refl [] _) (by simp) HW7.out.size⟩
                  case measure => simp [intOf]; omega
              · obtain ⟨ga, rfl, hoa⟩ := HPA.out (by omega)
                obtain ⟨gw, ow, hpw, hcw, -⟩ : ∃ gw ow, pw = some ⟨gw, ow, none⟩ ∧ m ≤ cw ∧ True := by
                  obtain ⟨p', c', he, hh⟩ := (HB7.out.r.win q hqV).form
                  rw [HV.out] at he
                  injection he with e1 e2 e3
                  obtain ⟨g', o', h1, h2, _⟩ := hh (by rw [← HL.out, ← HM.out]; omega)
                  rw [← HL.out, ← HM.out] at h2
                  exact ⟨g', o', by rw [e1]; exact h1, by rw [e3]; exact h2, trivial⟩
                subst hpw
                have HOa := Lib.hid hoa
                clear hoa
                go_wp2_with fail
                go_loopw [138] (fun i wr => ∃ j : Nat, j ≤ m ∧ i = .int .i64 j ∧ Chg [] w8 wr) (fun i _ => m - (intOf i).toNat)
                case atStart => exact ⟨0, Nat.zero_le _, rfl, Chg.refl _ _⟩
                case round =>
                  obtain ⟨j, hj, rfl, hCj⟩ := hrel
                  obtain ⟨wj, rfl⟩ : ∃ wj : World, wj = wr := ⟨_, rfl⟩
                  have HCj := Lib.hid hCj
                  clear hCj
                  by_cases hjl : j < m
                  · have hjL : j < L.length := by rw [← HM.out]; exact hjl
                    have own7 := ownsRow_chg HO7.out HCj.out (by simp)
                    have hrj := HB7.out.r.keep HCj.out (by simp)
                    have x0 : wj.cell? ⟨ga, j * 2, none⟩ = some (.int .i64 L[j].1) := cellsAt own7 HOa.out (j * 2) _ (letsC_get0 L j hjL)
                    have x1 : wj.cell? ⟨ga, j * 2 + 1, none⟩ = some (.string L[j].2) := cellsAt own7 HOa.out (j * 2 + 1) _ (letsC_get1 L j hjL)
                    obtain ⟨y0, y1⟩ : wj.cell? ⟨gw, ow + j * 2, none⟩ = some (.int .i64 L[j].1) ∧ wj.cell? ⟨gw, ow + (j * 2 + 1), none⟩ = some (.string L[j].2) := by
                      obtain ⟨p', c', he, hh⟩ := (hrj.win q hqV).form
                      rw [HV.out] at he
                      injection he with e1 e2 e3
                      obtain ⟨g', o', h1, h2, h3⟩ := hh (by rw [← HL.out, ← HM.out]; omega)
                      rw [← e1] at h1
                      injection h1 with h1
                      injection h1 with h1 h5
                      subst h1 h5
                      rw [← HL.out] at h3
                      exact ⟨h3 _ _ (letsC_get0 L j hjL), h3 _ _ (letsC_get1 L j hjL)⟩
                    rw [← Nat.add_assoc] at y1
                    obtain ⟨a, ha⟩ : ∃ a, a = L[j].1 := ⟨_, rfl⟩
                    obtain ⟨b, hb⟩ : ∃ b, b = L[j].2 := ⟨_, rfl⟩
                    rw [← ha] at x0 y0
                    rw [← hb] at x1 y1
                    have j0 : (0 : Int) ≤ (j : Int) := Int.natCast_nonneg _
                    have j1 : (j : Int) < (m : Int) := by omega
                    clear own7 hrj ha hb hjL
                    go_wp2_with fail
                    go_quiet (fail)
                    go_wp2
                    go_roundw
                    case rel => exact ⟨j + 1, hjl, by go_num, by first | exact HCj.out.drew | exact HCj.out.drewN _ | exact HCj.out⟩
                    case measure => simp [intOf]; omega
                  · obtain rfl : j = m := by omega
                    go_wp2_with fail
                    go_roundw
                    case rel => exact ⟨(q : Int) + 1, by omega, by omega, by go_num, HB7.out.keep HCj.out (by simp) (by simp), chg_below HW7.out HCj.out (by simp) HW7.out.size⟩
                    case measure => simp [intOf]; omega
            · have HA := Lib.hid (all_out HBz.out.p z (by omega))
              have HCn := Lib.hid (count_out HBz.out.p z (by omega))
              by_cases h0 : 0 ≤ z
              · have d0 : decide (z ≥ 0) = true := by simpa using h0
                have d1 : decide (z < (n : Int)) = false := by simp; omega
                go_wp2_with fail
                refine HA.out.mono ?_
                rintro e w7 ⟨rfl, rfl⟩
                go_wp2_with fail
                refine HCn.out.mono ?_
                rintro e w7 ⟨rfl, rfl⟩
                go_wp2_with fail
                go_loopw [138] (fun i wr => i = .int .i64 0 ∧ wr = w7) (fun _ _ => 0)
                case atStart => exact ⟨rfl, rfl⟩
                case round =>
                  obtain ⟨rfl, rfl⟩ := hrel
                  go_wp2_with fail
                  go_roundw
                  case rel => exact ⟨z + 1, by omega, by omega, by go_num, HBz.out, HWz.out⟩
                  case measure => simp [intOf]; omega
              · have d0 : decide (z ≥ 0) = false := by simpa using h0
                go_wp2_with fail
                refine HA.out.mono ?_
                rintro e w7 ⟨rfl, rfl⟩
                go_wp2_with fail
                refine HCn.out.mono ?_
                rintro e w7 ⟨rfl, rfl⟩
                go_wp2_with fail
                go_loopw [138] (fun i wr => i = .int .i64 0 ∧ wr = w7) (fun _ _ => 0)
                case atStart => exact ⟨rfl, rfl⟩
                case round =>
                  obtain ⟨rfl, rfl⟩ := hrel
                  go_wp2_with fail
                  go_roundw
                  case rel => exact ⟨z + 1, by omega, by omega, by go_num, HBz.out, HWz.out⟩
                  case measure => simp [intOf]; omega
          · obtain rfl : z = n + 1 := by omega
            go_wp2_with fail
            go_roundw
            case rel => exact ⟨k + 1, hlt, by go_num, BothE.up (M := wc.heap.size) ⟨g, cap, C, rg, V, B, HBz.out, HN1.out, HN2.out⟩, HWz.out⟩
            case measure => simp [intOf]; omega
    · obtain rfl : k = len := by omega
      go_wp2
      go_ret
      exact ⟨rfl, HW.out⟩
end Go.Proofs.L
