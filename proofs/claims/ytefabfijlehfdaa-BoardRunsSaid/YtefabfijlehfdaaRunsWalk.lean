/- Proved here: lemmas and contracts (RunsWalk) for the laws of this seat, for all values of the stated types; no further condition. -/
import Derived.Test.YtefabfijlehfdaaBothFeed
import Derived.Deep.DeepCutAuto
import Derived.Deep.CutBlock
open Go Go.RowKit Go.Lib
namespace Go.Proofs.L
theorem hmk_str (n : Nat) (h1 : 1 ≤ n) (h2 : n ≤ 4) (w : World) : (Instr.makeSlice 38 (.int .i64 (n : Int)) (.int .i64 (n : Int))).run Try.prog w = .ok (.slice (some ⟨w.heap.size, 0, none⟩) n n) (w.alloc (.cells (strC (List.replicate n ⟨#[]⟩)) 9)) := by
  have h : n = 1 ∨ n = 2 ∨ n = 3 ∨ n = 4 := by omega
  rcases h with rfl | rfl | rfl | rfl
  · have e : ∀ w, (Instr.makeSlice 38 (.int .i64 1) (.int .i64 1)).run Try.prog w = .ok (.slice (some ⟨w.heap.size, 0, none⟩) 1 1) (w.alloc (.cells #[.string ⟨#[]⟩] 9)) := fun _ => by kernel_rfl
    exact e w
  · have e : ∀ w, (Instr.makeSlice 38 (.int .i64 2) (.int .i64 2)).run Try.prog w = .ok (.slice (some ⟨w.heap.size, 0, none⟩) 2 2) (w.alloc (.cells #[.string ⟨#[]⟩, .string ⟨#[]⟩] 9)) := fun _ => by kernel_rfl
    exact e w
  · have e : ∀ w, (Instr.makeSlice 38 (.int .i64 3) (.int .i64 3)).run Try.prog w = .ok (.slice (some ⟨w.heap.size, 0, none⟩) 3 3) (w.alloc (.cells #[.string ⟨#[]⟩, .string ⟨#[]⟩, .string ⟨#[]⟩] 9)) := fun _ => by kernel_rfl
    exact e w
  · have e : ∀ w, (Instr.makeSlice 38 (.int .i64 4) (.int .i64 4)).run Try.prog w = .ok (.slice (some ⟨w.heap.size, 0, none⟩) 4 4) (w.alloc (.cells #[.string ⟨#[]⟩, .string ⟨#[]⟩, .string ⟨#[]⟩, .string ⟨#[]⟩] 9)) := fun _ => by kernel_rfl
    exact e w
theorem Below.chg0 {a b : World} {n : Nat} (h : Below n a b) (hn : a.heap.size ≤ n) : Chg [] a b := ⟨h.os, h.tape, h.output, h.size, fun k hk _ => h.block k (by omega)⟩
theorem BothE.keep {N M n bb rb : Nat} {w w' : World} {E : List Nat} (h : BothE N M w n bb rb) (hc : Chg E w w') (hE : ∀ k ∈ E, k < N ∨ M ≤ k) : BothE N M w' n bb rb := by
  obtain ⟨ib, rib, lv, wv, tv, L, I, hB, h1, h2⟩ := h
  refine ⟨ib, rib, lv, wv, tv, L, I, ⟨hB.b.keep hc fun k hk hm => ?_, hB.r.keep hc fun k hk hm => ?_, hB.len, hB.apart⟩, h1, h2⟩
  · have := h1 k hk
    have := hE k hm
    omega
  · have := h2 k hk
    have := hE k hm
    omega
theorem BothE.drew {N M n bb rb : Nat} {w : World} (h : BothE N M w n bb rb) : BothE N M w.drew n bb rb := h.keep (E := []) (Chg.refl _ _).drew (by simp)
theorem FrameP.cell {N M b : Nat} {a c : World} (h : FrameP N M a c) (hb : M ≤ b) (hl : b < a.heap.size) (i : Nat) : c.cell? ⟨b, i, none⟩ = a.cell? ⟨b, i, none⟩ := by
  obtain ⟨fp, h1, h2⟩ := h
  have := h1.block b hl (fun hm => by have := (h2 b hm).2; omega)
  exact World.cell?_of_block this
theorem form0 {w : World} {base e size n : Nat} {v : Value} {xs : List Value} (h : w.ownsRow base e size v n xs) : ∃ a cap, v = .slice a n cap := by
  rcases h.2 with ⟨rfl, rfl⟩ | ⟨g, cap, cur, rfl, _⟩
  · exact ⟨_, _, rfl⟩
  · exact ⟨_, _, rfl⟩
theorem cellsAt {w : World} {base e size n : Nat} {v : Value} {xs : List Value} (h : w.ownsRow base e size v n xs) {g : Nat} (hg : v.ownBlock = some g) (j : Nat) (u : Value) (hu : xs[j]? = some u) : w.cell? ⟨g, j, none⟩ = some u := by
  have := World.ownsRow.cells h hg j u hu
  rwa [show (⟨g, 0, none⟩ : Addr).add j = ⟨g, j, none⟩ from by unfold Addr.add; split <;> simp_all] at this
theorem linesC_get0 : ∀ (L : List (Int × ByteArray)) (j : Nat) (h : j < L.length), (linesC L)[j * 2]? = some (.int .i64 L[j].1)
  | x :: L, 0, _ => rfl
  | x :: L, j + 1, h => by
    have := linesC_get0 L j (by simpa using h)
    rw [show (j + 1) * 2 = j * 2 + 2 from by omega]
    simpa [linesC, lineC] using this
theorem linesC_get1 : ∀ (L : List (Int × ByteArray)) (j : Nat) (h : j < L.length), (linesC L)[j * 2 + 1]? = some (.string L[j].2)
  | x :: L, 0, _ => rfl
  | x :: L, j + 1, h => by
    have := linesC_get1 L j (by simpa using h)
    rw [show (j + 1) * 2 + 1 = j * 2 + 1 + 2 from by omega]
    simpa [linesC, lineC] using this
theorem FrameP.drewL {N M : Nat} {a c : World} (h : FrameP N M a.drew c) : FrameP N M a c := (FrameP.refl N M a).drew.trans h
theorem FrameP.belowW {N M : Nat} {w a c : World} (h : FrameP N M a c) (hw : Below N w a) (hN : N ≤ w.heap.size := by omega) : Below N w c := by
  have hsz := hw.size
  obtain ⟨fp, h1, h2⟩ := h
  exact ⟨h1.os.trans hw.os, h1.tape.trans hw.tape, h1.output.trans hw.output, Nat.le_trans hw.size h1.size, fun k hk => by
    rcases Nat.lt_or_ge k a.heap.size with hl | hl
    · exact (h1.block k hl (fun hm => by have := (h2 k hm).1; omega)).trans (hw.block k hk)
    · exact absurd hk (by omega)⟩
set_option maxRecDepth 100000 in
set_option maxHeartbeats 6400000 in
theorem runs_walk (n : Nat) (h1 : 1 ≤ n) (h4 : n ≤ 4) (sb so len cap : Nat) (p : Option Addr) (hlen : len ≤ 200) (w : World) (hp : 0 < len → p = some ⟨sb, so, none⟩)
    (hcell : ∀ k, k < len → ∃ (kd wh : Int) (t : ByteArray), t.size ≤ 140737488355328 ∧ w.cell? ⟨sb, so + k * 3, none⟩ = some (.int .i64 kd) ∧ w.cell? ⟨sb, so + k * 3 + 1, none⟩ = some (.int .i64 wh) ∧ w.cell? ⟨sb, so + k * 3 + 2, none⟩ = some (.string t)) :
    Calls Try.prog 4 #[.int .i64 (n : Int), .slice p len cap] w fun e w' => e = .returned (.bool true) ∧ Below w.heap.size w w' := by
  have dn1 : decide ((n : Int) < 1) = false := by simp; omega
  have dn2 : decide ((n : Int) > 4) = false := by simp; omega
  have dl : decide ((len : Int) > 200) = false := by simp; omega
  have dl2 : decide (200 < (len : Int)) = false := by simp; omega
  have HC := Lib.hid hcell
  have HP := Lib.hid hp
  clear hcell hp
  go_enter Try.func4, Try.ntmps4
  go_wp2_with fail
  refine (fit_ok w).mono ?_
  rintro e w0 ⟨rfl, hB0⟩
  have hN := new_bd n h1 h4 w0
  have hNB := new_below n w0
  obtain ⟨W1, hW1⟩ : ∃ W1, W1 = newW w0 n := ⟨_, rfl⟩
  have hn := new_ok n h1 h4 w0
  rw [← hW1] at hN hNB hn
  have HB1 := Lib.hid hN
  have HNB := Lib.hid hNB
  have HB0 := Lib.hid hB0
  have HN := Lib.hid hn
  have hmk := hmk_str n h1 h4
  clear hW1 hN hNB hB0 hn
  go_wp2_with fail
  refine HN.out.mono ?_
  rintro e w1 ⟨rfl, rfl⟩
  go_wp2_with fail
  obtain ⟨W2, hW2⟩ : ∃ W2, W2 = (w1.alloc (.cells (strC (List.replicate n ⟨#[]⟩)) 9)).alloc (.cells #[.slice none 0 0, .slice none 0 0, .slice (some ⟨w1.heap.size, 0, none⟩) n n] 41) := ⟨_, rfl⟩
  rw [← hW2]
  have hW01 := HB1.out.lt
  have hc12 : Chg [] w1 W2 := by rw [hW2]; exact ((Chg.refl [] _).alloc _).alloc _
  have hBW1 : Below w.heap.size w w1 := HB0.out.trans (HNB.out.mono HB0.out.size)
  have hBW : Below w.heap.size w W2 := by rw [hW2]; exact (hBW1.alloc hBW1.size _).alloc (by have := hBW1.size; simp; omega) _
  have hbE : BothE w.heap.size W2.heap.size W2 n (w0.heap.size + 1) (w1.heap.size + 1) := by
    have z1 := hW01 (w0.heap.size + 1) (by simp [fpB])
    have z2 := HB0.out.size
    have hsz : W2.heap.size = w1.heap.size + 2 := by rw [hW2]; simp
    have hr : Rf W2 (w1.heap.size + 1) w1.heap.size (.slice none 0 0) (.slice none 0 0) [] (List.replicate n ⟨#[]⟩) := by
      refine ⟨?_, ?_, World.ownsRow_nil _ _ _ _, World.ownsRow_nil _ _ _ _, by omega, fun k hk => by simp [Value.ownBlock] at hk, fun k hk => by simp [Value.ownBlock] at hk, by simpa using h1, by simpa using h4, ?_, fun l hl => by simp at hl, by simp [used]⟩
      · rw [hW2, row_alloc_at _ _ _ _ (by simp)]; simp
      · rw [hW2, row_alloc_past _ _ _ (by simp), row_alloc_at _ _ _ _ rfl]
      · intro s hs
        obtain ⟨_, rfl⟩ := List.mem_replicate.1 hs
        decide
    refine ⟨w0.heap.size, w1.heap.size, .slice none 0 0, .slice none 0 0, .slice none 0 0, [], List.replicate n ⟨#[]⟩, ⟨HB1.out.keep hc12 (by simp), hr, by simp, ?_⟩, ?_, ?_⟩
    · intro k hk hm
      simp [fpB, fpR, Value.ownBlock] at hk hm
      omega
    · intro k hk
      simp [fpB, Value.ownBlock] at hk
      omega
    · intro k hk
      simp [fpR, Value.ownBlock] at hk
      omega
  clear hW01 hc12 hBW1
  have HB2 := Lib.hid hbE
  have HW2 := Lib.hid hBW
  clear hW2 hbE hBW hmk
  go_loopw [48] (fun i wr => ∃ k : Nat, k ≤ len ∧ i = .int .i64 k ∧ BothE w.heap.size wr.heap.size wr n (w0.heap.size + 1) (w1.heap.size + 1) ∧ Below w.heap.size w wr) (fun i _ => len - (intOf i).toNat)
  case atStart => exact ⟨0, Nat.zero_le _, rfl, HB2.out, HW2.out⟩
  case round =>
    obtain ⟨k, hk, rfl, hb, hw⟩ := hrel
    obtain ⟨wo, rfl⟩ : ∃ wo : World, wo = wr := ⟨_, rfl⟩
    have HB := Lib.hid hb
    have HW := Lib.hid hw
    clear hb hw
    by_cases hlt : k < len
    · obtain ⟨kd, wh, t, ht, c0, c1, c2⟩ := HC.out k hlt
      have hsb := World.block_lt_of_cell? w _ c0
      have hpp := HP.out (by omega)
      subst hpp
      have s0 : wo.cell? ⟨sb, so + k * 3, none⟩ = some (.int .i64 kd) := (HW.out.cell (p := ⟨sb, so + k * 3, none⟩) hsb).trans c0
      have s1 : wo.cell? ⟨sb, so + k * 3 + 1, none⟩ = some (.int .i64 wh) := (HW.out.cell (p := ⟨sb, so + k * 3 + 1, none⟩) hsb).trans c1
      have s2 : wo.cell? ⟨sb, so + k * 3 + 2, none⟩ = some (.string t) := (HW.out.cell (p := ⟨sb, so + k * 3 + 2, none⟩) hsb).trans c2
      clear c0 c1 c2
      go_upto_block 2 with (fail)
      obtain ⟨W3, hW3⟩ : ∃ W3, W3 = wo.alloc (.cells #[.int .i64 kd, .int .i64 wh, .string t] 43) := ⟨_, rfl⟩
      rw [← hW3]
      have p0 : W3.cell? ⟨wo.heap.size, 0, none⟩ = some (.int .i64 kd) := by rw [hW3]; go_simp
      have p1 : W3.cell? ⟨wo.heap.size, 1, none⟩ = some (.int .i64 wh) := by rw [hW3]; go_simp
      have p2 : W3.cell? ⟨wo.heap.size, 2, none⟩ = some (.string t) := by rw [hW3]; go_simp
      have hz3 : wo.heap.size < W3.heap.size := by rw [hW3]; simp
      have hb3 : BothE w.heap.size wo.heap.size W3 n (w0.heap.size + 1) (w1.heap.size + 1) := by rw [hW3]; exact HB.out.keep ((Chg.refl [] _).alloc _) (by simp)
      have hw3 : Below w.heap.size w W3 := by rw [hW3]; exact HW.out.alloc HW.out.size _
      have HB3 := Lib.hid hb3
      have HB3d := Lib.hid hb3.drew
      have HW3 := Lib.hid hw3
      clear hW3 hb3 hw3 s0 s1 s2
      go_cut [10] (fun s10 wx => s10 = .bool true ∧ BothE w.heap.size wx.heap.size wx n (w0.heap.size + 1) (w1.heap.size + 1) ∧ Below w.heap.size w wx)
      case first =>
        by_cases k0 : kd = 0
        · subst k0
          go_wp2_with fail
          refine wp_region_C (fun w' => w'.cell? ⟨wo.heap.size, 1, none⟩ = some (.int .i64 wh) ∧ w'.cell? ⟨wo.heap.size, 2, none⟩ = some (.string t)) [(0, 0), (1, 0), (2, 1), (3, 0), (4, 1), (6, 0), (7, 0), (8, 1), (9, 0), (10, 1), (5, 2), (11, 2), (12, 0), (13, 0)] rfl (by kernel_rfl) ?hS17 ?hT17
          case hS17 => exact ⟨by go_simp, by go_simp⟩
          refine wpT_pureD (v := ?_) (some 64) rfl rfl (by rfl) (fun w' => ?_) ?_
          rotate_left
          · (go_simp; try with_reducible rfl)
          try simp only [Act.put, List.setIfInBounds_toArray, List.set_cons_zero, List.set_cons_succ]
          refine wpT_pureD (v := ?_) (some 65) rfl rfl (by rfl) (fun w' => ?_) ?_
          rotate_left
          · (go_simp; try with_reducible rfl)
          try simp only [Act.put, List.setIfInBounds_toArray, List.set_cons_zero, List.set_cons_succ]
          refine wpT_readD (v := ?_) (some 66) rfl rfl (by rfl) (fun w' hw => ?_) ?_
          rotate_left
          · (obtain ⟨q0, q1⟩ := hw; go_simp; try with_reducible rfl)
          try simp only [Act.put, List.setIfInBounds_toArray, List.set_cons_zero, List.set_cons_succ]
          refine wpT_pureD (v := ?_) (some 67) rfl rfl (by rfl) (fun w' => ?_) ?_
          rotate_left
          · (go_simp; try with_reducible rfl)
          try simp only [Act.put, List.setIfInBounds_toArray, List.set_cons_zero, List.set_cons_succ]
          refine wpT_readD (v := ?_) (some 68) rfl rfl (by rfl) (fun w' hw => ?_) ?_
          rotate_left
          · (obtain ⟨q0, q1⟩ := hw; go_simp; try with_reducible rfl)
          try simp only [Act.put, List.setIfInBounds_toArray, List.set_cons_zero, List.set_cons_succ]
          refine wpT_pureD (v := ?_) (some 70) rfl rfl (by rfl) (fun w' => ?_) ?_
          rotate_left
          · (go_simp; try with_reducible rfl)
          try simp only [Act.put, List.setIfInBounds_toArray, List.set_cons_zero, List.set_cons_succ]
          refine wpT_pureD (v := ?_) (some 71) rfl rfl (by rfl) (fun w' => ?_) ?_
          rotate_left
          · (go_simp; try with_reducible rfl)
          try simp only [Act.put, List.setIfInBounds_toArray, List.set_cons_zero, List.set_cons_succ]
          refine wpT_readD (v := ?_) (some 72) rfl rfl (by rfl) (fun w' hw => ?_) ?_
          rotate_left
          · (obtain ⟨q0, q1⟩ := hw; go_simp; try with_reducible rfl)
          try simp only [Act.put, List.setIfInBounds_toArray, List.set_cons_zero, List.set_cons_succ]
          refine wpT_pureD (v := ?_) (some 73) rfl rfl (by rfl) (fun w' => ?_) ?_
          rotate_left
          · (go_simp; try with_reducible rfl)
          try simp only [Act.put, List.setIfInBounds_toArray, List.set_cons_zero, List.set_cons_succ]
          refine wpT_readD (v := ?_) (some 74) rfl rfl (by rfl) (fun w' hw => ?_) ?_
          rotate_left
          · (obtain ⟨q0, q1⟩ := hw; go_simp; try with_reducible rfl)
          try simp only [Act.put, List.setIfInBounds_toArray, List.set_cons_zero, List.set_cons_succ]
          refine wpT_eff rfl (by rfl) (fun K hK => ?_)
          go_wp2_with fail
          refine (say_both HB3d.out wh t (by have := HW3.out.size; simpa using this)).mono ?_
          rintro e w4 ⟨r, rfl, hF4, hC4⟩
          have q1 := hF4.cell (b := wo.heap.size) (Nat.le_refl _) (by go_simp) 1
          have q2 := hF4.cell (b := wo.heap.size) (Nat.le_refl _) (by go_simp) 2
          have q1' : w4.cell? ⟨wo.heap.size, 1, none⟩ = some (.int .i64 wh) := q1.trans (by go_simp)
          have q2' : w4.cell? ⟨wo.heap.size, 2, none⟩ = some (.string t) := q2.trans (by go_simp)
          have HF4 := Lib.hid hF4
          have HC4 := Lib.hid hC4
          clear hF4 hC4 q1 q2
          go_wp2_with fail
          refine hK _ _ ⟨q1', q2'⟩ ?_
          clear hK K
          try simp only [Act.put, List.setIfInBounds_toArray, List.set_cons_zero, List.set_cons_succ]
          refine wpT_eff rfl (by rfl) (fun K hK => ?_)
          go_wp2_with fail
          refine HC4.out.mono ?_
          rintro e w5 ⟨rfl, hB5, hF5⟩
          have q1 := hF5.cell (b := wo.heap.size) (Nat.le_refl _) (by go_simp) 1
          have q2 := hF5.cell (b := wo.heap.size) (Nat.le_refl _) (by go_simp) 2
          have q3' : w5.cell? ⟨wo.heap.size, 1, none⟩ = some (.int .i64 wh) := q1.trans (by go_simp)
          have q4' : w5.cell? ⟨wo.heap.size, 2, none⟩ = some (.string t) := q2.trans (by go_simp)
          have HF5 := Lib.hid hF5
          have HB5 := Lib.hid hB5
          clear hF5 hB5 q1 q2
          go_wp2_with fail
          refine hK _ _ ⟨q3', q4'⟩ ?_
          clear hK K
          try simp only [Act.put, List.setIfInBounds_toArray, List.set_cons_zero, List.set_cons_succ]
          refine wpT_pureD (v := ?_) (some 76) rfl rfl (by rfl) (fun w' => ?_) ?_
          rotate_left
          · (go_simp; try with_reducible rfl)
          try simp only [Act.put, List.setIfInBounds_toArray, List.set_cons_zero, List.set_cons_succ]
          refine wpT_pureD (v := ?_) (some 10) rfl rfl (by rfl) (fun w' => ?_) ?_
          rotate_left
          · (go_simp; try with_reducible rfl)
          try simp only [Act.put, List.setIfInBounds_toArray, List.set_cons_zero, List.set_cons_succ]
          refine wpT_end ?_
          go_wp2_with fail
          go_meet
          exact ⟨by simp, HB5.out, (FrameP.drewL HF5.out).belowW HW3.out⟩
        · by_cases k1 : kd = 1
          · subst k1
            clear k0
            go_wp2_with fail
            refine wp_region_C (fun w' => w'.cell? ⟨wo.heap.size, 1, none⟩ = some (.int .i64 wh) ∧ w'.cell? ⟨wo.heap.size, 2, none⟩ = some (.string t)) [(0, 0), (1, 0), (2, 1), (3, 0), (4, 1), (6, 0), (7, 0), (8, 1), (9, 0), (10, 1), (5, 2), (11, 2), (12, 0), (13, 0)] rfl (by kernel_rfl) ?hS19 ?hT19
            case hS19 => exact ⟨by go_simp, by go_simp⟩
            refine wpT_pureD (v := ?_) (some 79) rfl rfl (by rfl) (fun w' => ?_) ?_
            rotate_left
            · (go_simp; try with_reducible rfl)
            try simp only [Act.put, List.setIfInBounds_toArray, List.set_cons_zero, List.set_cons_succ]
            refine wpT_pureD (v := ?_) (some 80) rfl rfl (by rfl) (fun w' => ?_) ?_
            rotate_left
            · (go_simp; try with_reducible rfl)
            try simp only [Act.put, List.setIfInBounds_toArray, List.set_cons_zero, List.set_cons_succ]
            refine wpT_readD (v := ?_) (some 81) rfl rfl (by rfl) (fun w' hw => ?_) ?_
            rotate_left
            · (obtain ⟨q0, q1⟩ := hw; go_simp; try with_reducible rfl)
            try simp only [Act.put, List.setIfInBounds_toArray, List.set_cons_zero, List.set_cons_succ]
            refine wpT_pureD (v := ?_) (some 82) rfl rfl (by rfl) (fun w' => ?_) ?_
            rotate_left
            · (go_simp; try with_reducible rfl)
            try simp only [Act.put, List.setIfInBounds_toArray, List.set_cons_zero, List.set_cons_succ]
            refine wpT_readD (v := ?_) (some 83) rfl rfl (by rfl) (fun w' hw => ?_) ?_
            rotate_left
            · (obtain ⟨q0, q1⟩ := hw; go_simp; try with_reducible rfl)
            try simp only [Act.put, List.setIfInBounds_toArray, List.set_cons_zero, List.set_cons_succ]
            refine wpT_pureD (v := ?_) (some 85) rfl rfl (by rfl) (fun w' => ?_) ?_
            rotate_left
            · (go_simp; try with_reducible rfl)
            try simp only [Act.put, List.setIfInBounds_toArray, List.set_cons_zero, List.set_cons_succ]
            refine wpT_pureD (v := ?_) (some 86) rfl rfl (by rfl) (fun w' => ?_) ?_
            rotate_left
            · (go_simp; try with_reducible rfl)
            try simp only [Act.put, List.setIfInBounds_toArray, List.set_cons_zero, List.set_cons_succ]
            refine wpT_readD (v := ?_) (some 87) rfl rfl (by rfl) (fun w' hw => ?_) ?_
            rotate_left
            · (obtain ⟨q0, q1⟩ := hw; go_simp; try with_reducible rfl)
            try simp only [Act.put, List.setIfInBounds_toArray, List.set_cons_zero, List.set_cons_succ]
            refine wpT_pureD (v := ?_) (some 88) rfl rfl (by rfl) (fun w' => ?_) ?_
            rotate_left
            · (go_simp; try with_reducible rfl)
            try simp only [Act.put, List.setIfInBounds_toArray, List.set_cons_zero, List.set_cons_succ]
            refine wpT_readD (v := ?_) (some 89) rfl rfl (by rfl) (fun w' hw => ?_) ?_
            rotate_left
            · (obtain ⟨q0, q1⟩ := hw; go_simp; try with_reducible rfl)
            try simp only [Act.put, List.setIfInBounds_toArray, List.set_cons_zero, List.set_cons_succ]
            refine wpT_eff rfl (by rfl) (fun K hK => ?_)
            go_wp2_with fail
            refine (feed_both HB3d.out wh t ht).mono ?_
            rintro e w4 ⟨r, rfl, hF4, hC4⟩
            have q1 := hF4.cell (b := wo.heap.size) (Nat.le_refl _) (by go_simp) 1
            have q2 := hF4.cell (b := wo.heap.size) (Nat.le_refl _) (by go_simp) 2
            have q1' : w4.cell? ⟨wo.heap.size, 1, none⟩ = some (.int .i64 wh) := q1.trans (by go_simp)
            have q2' : w4.cell? ⟨wo.heap.size, 2, none⟩ = some (.string t) := q2.trans (by go_simp)
            have HF4 := Lib.hid hF4
            have HC4 := Lib.hid hC4
            clear hF4 hC4 q1 q2
            go_wp2_with fail
            refine hK _ _ ⟨q1', q2'⟩ ?_
            clear hK K
            try simp only [Act.put, List.setIfInBounds_toArray, List.set_cons_zero, List.set_cons_succ]
            refine wpT_eff rfl (by rfl) (fun K hK => ?_)
            go_wp2_with fail
            refine HC4.out.mono ?_
            rintro e w5 ⟨rfl, hB5, hF5⟩
            have q1 := hF5.cell (b := wo.heap.size) (Nat.le_refl _) (by go_simp) 1
            have q2 := hF5.cell (b := wo.heap.size) (Nat.le_refl _) (by go_simp) 2
            have q3' : w5.cell? ⟨wo.heap.size, 1, none⟩ = some (.int .i64 wh) := q1.trans (by go_simp)
            have q4' : w5.cell? ⟨wo.heap.size, 2, none⟩ = some (.string t) := q2.trans (by go_simp)
            have HF5 := Lib.hid hF5
            have HB5 := Lib.hid hB5
            clear hF5 hB5 q1 q2
            go_wp2_with fail
            refine hK _ _ ⟨q3', q4'⟩ ?_
            clear hK K
            try simp only [Act.put, List.setIfInBounds_toArray, List.set_cons_zero, List.set_cons_succ]
            refine wpT_pureD (v := ?_) (some 91) rfl rfl (by rfl) (fun w' => ?_) ?_
            rotate_left
            · (go_simp; try with_reducible rfl)
            try simp only [Act.put, List.setIfInBounds_toArray, List.set_cons_zero, List.set_cons_succ]
            refine wpT_pureD (v := ?_) (some 10) rfl rfl (by rfl) (fun w' => ?_) ?_
            rotate_left
            · (go_simp; try with_reducible rfl)
            try simp only [Act.put, List.setIfInBounds_toArray, List.set_cons_zero, List.set_cons_succ]
            refine wpT_end ?_
            go_wp2_with fail
            go_meet
            exact ⟨by simp, HB5.out, (FrameP.drewL HF5.out).belowW HW3.out⟩
          · by_cases k2 : kd = 2
            · subst k2
              clear k0 k1
              go_wp2_with fail
              refine (hear_both HB3.out wh).mono ?_
              rintro e w4 ⟨c, r, hc, rfl, hF4, hC4⟩
              have q1 := hF4.cell (b := wo.heap.size) (Nat.le_refl _) hz3 1
              have q1' : w4.cell? ⟨wo.heap.size, 1, none⟩ = some (.int .i64 wh) := q1.trans p1
              have HC4 := Lib.hid hC4
              clear q1 hF4 hC4
              go_wp2_with fail
              refine HC4.out.mono ?_
              rintro e w5 ⟨rfl, hB5, hF5⟩
              have HB5 := Lib.hid hB5
              have HF5 := Lib.hid hF5
              clear hB5 hF5
              go_wp2_with fail
              go_meet
              exact ⟨by simp, HB5.out, HF5.out.belowW HW3.out⟩
            · have e0 : (kd == 0) = false := by simpa using k0
              have e1 : (kd == 1) = false := by simpa using k1
              have e2 : (kd == 2) = false := by simpa using k2
              clear k0 k1 k2
              go_wp2_with fail
              refine (clear_both HB3.out).mono ?_
              rintro e w4 ⟨rfl, hF4, ⟨v0, v1, hv0, hv1⟩, hfr, hB5, hF5⟩
              have fr0 := hfr 0
              have fr1 := hfr 1
              have HB5 := Lib.hid hB5
              have HF5 := Lib.hid hF5
              clear hB5 hF5 hF4 hfr
              go_wp2_with fail
              go_meet
              exact ⟨rfl, by simpa using HB5.out, HF5.out.belowW HW3.out⟩
      case rest =>
        obtain ⟨rfl, hb6, hw6⟩ := hcut
        have HB6 := Lib.hid hb6
        have HW6 := Lib.hid hw6
        clear hb6 hw6 p0 p1 p2 HB3 HB3d HW3 HB HW
        go_wp2_with fail
        obtain ⟨ib, rib, lv, wv, tv, L, I, hB, hn1, hn2⟩ := HB6.out
        refine (lines_any hB.b).mono ?_
        rintro e w7 ⟨v7, rfl, ho7, hL7⟩
        have hb7 : Bd w7 (w0.heap.size + 1) ib lv L I := hB.b.keep (Below.chg hL7 []) (by simp)
        have hr7 : Rf w7 (w1.heap.size + 1) rib wv tv L I := hB.r.keep (Below.chg hL7 []) (by simp)
        have hw7 : Below w.heap.size w w7 := HW6.out.trans (hL7.mono HW6.out.size)
        have hlen := hB.len
        have hb7E : BothE w.heap.size w7.heap.size w7 n (w0.heap.size + 1) (w1.heap.size + 1) := ⟨ib, rib, lv, wv, tv, L, I, ⟨hb7, hr7, hlen, hB.apart⟩, fun j hj => ⟨(hn1 j hj).1, hb7.lt j hj⟩, fun j hj => ⟨(hn2 j hj).1, hr7.lt j hj⟩⟩
        have hlu := len_used L hr7.texts
        have hfit := hr7.fits
        have m0 := hr7.c0
        have m1 := hr7.c1
        have HB7 := Lib.hid hb7
        have HR7 := Lib.hid hr7
        have HW7 := Lib.hid hw7
        have HE7 := Lib.hid hb7E
        have HO7 := Lib.hid ho7
        have HN := Lib.hid hlen
        clear hB hn1 hn2 hL7 hb7 hr7 hw7 hb7E ho7 hlen HB6 HW6
        obtain ⟨m, hm⟩ : ∃ m, m = L.length := ⟨_, rfl⟩
        have HM := Lib.hid hm
        have hm256 : m ≤ 256 := by omega
        clear hlu hfit
        obtain ⟨a7, cap7, rfl⟩ := form0 HO7.out
        obtain ⟨aw, capw, hwv⟩ := form0 HR7.out.own
        rw [hwv] at m0
        rw [← hm] at m0 HO7 ⊢
        have HWV := Lib.hid hwv
        have M0 := Lib.hid m0
        clear hm hwv m1
        go_upto_block 3 with (fail)
        clear m0
        go_cut [] (fun wx => Chg [] w7 wx)
        case first =>
          by_cases hz : m = 0
          · subst hz
            go_wp2_with fail
            go_loopw [133] (fun i wr => i = .int .i64 0 ∧ wr = w7) (fun _ _ => 0)
            case atStart => exact ⟨rfl, rfl⟩
            case round =>
              obtain ⟨rfl, rfl⟩ := hrel
              go_wp2_with fail
              go_meet
              exact Chg.refl _ _
          · obtain ⟨g7, c7', e7, -, -⟩ := HO7.out.form (by omega)
            obtain ⟨gw, cw', ew, -, -⟩ := HR7.out.own.form (by rw [← HM.out]; omega)
            obtain ⟨gt, capt, htv, -, -⟩ := HR7.out.ownT.form (by rw [← HM.out]; omega)
            rw [HWV.out] at ew
            have e7' : a7 = some ⟨g7, 0, none⟩ := by injection e7
            have ew' : aw = some ⟨gw, 0, none⟩ := by injection ew
            subst e7' ew'
            have HTV := Lib.hid htv
            clear htv e7 ew
            go_wp2_with fail
            go_loopw [133] (fun i wr => ∃ j : Nat, j ≤ m ∧ i = .int .i64 j ∧ Chg [] w7 wr) (fun i _ => m - (intOf i).toNat)
            case atStart => exact ⟨0, Nat.zero_le _, rfl, Chg.refl _ _⟩
            case round =>
              obtain ⟨j, hj, rfl, hCj⟩ := hrel
              obtain ⟨wi, rfl⟩ : ∃ wi : World, wi = wr := ⟨_, rfl⟩
              have HCj := Lib.hid hCj
              clear hCj
              by_cases hjl : j < m
              · have hjL : j < L.length := by rw [← HM.out]; exact hjl
                have own7 := ownsRow_chg HO7.out HCj.out (by simp)
                have hrj := HR7.out.keep HCj.out (by simp)
                have x0 : wi.cell? ⟨g7, j * 2, none⟩ = some (.int .i64 L[j].1) := cellsAt own7 rfl (j * 2) _ (linesC_get0 L j hjL)
                have x1 : wi.cell? ⟨g7, j * 2 + 1, none⟩ = some (.string L[j].2) := cellsAt own7 rfl (j * 2 + 1) _ (linesC_get1 L j hjL)
                have y0 : wi.cell? ⟨gw, j, none⟩ = some (.int .i64 L[j].1) := cellsAt hrj.own (by rw [HWV.out]; rfl) j _ (by simp [whoC, hjL])
                have y1 : wi.cell? ⟨gt, j, none⟩ = some (.string L[j].2) := cellsAt hrj.ownT (by rw [HTV.out]; rfl) j _ (by simp [txtC, hjL])
                have m0 := hrj.c0
                have m1 := hrj.c1
                rw [HWV.out, ← HM.out] at m0
                rw [HTV.out, ← HM.out] at m1
                obtain ⟨a, ha⟩ : ∃ a, a = L[j].1 := ⟨_, rfl⟩
                obtain ⟨b, hb⟩ : ∃ b, b = L[j].2 := ⟨_, rfl⟩
                rw [← ha] at x0 y0
                rw [← hb] at x1 y1
                have lg : gw < wi.heap.size := World.block_lt_of_cell? wi _ y0
                have lt : gt < wi.heap.size := World.block_lt_of_cell? wi _ y1
                have lm : w1.heap.size + 1 < wi.heap.size := World.block_lt_of_cell? wi _ m0
                have j0 : (0 : Int) ≤ (j : Int) := Int.natCast_nonneg _
                have j1 : (j : Int) < (m : Int) := by omega
                clear own7 hrj ha hb hjL
                go_wp2_with fail
                go_quiet (fail)
                go_wp2
                go_roundw
                case rel => exact ⟨j + 1, hjl, by go_num, by first | exact (HCj.out.alloc _).drewN _ | exact (HCj.out.alloc _).drew | exact HCj.out.alloc _⟩
                case measure => simp [intOf]; omega
              · obtain rfl : j = m := by omega
                go_wp2_with fail
                go_meet
                exact HCj.out
        case rest =>
          have HC8 := Lib.hid hcut
          clear hcut
          have hb8 := HB7.out.keep HC8.out (by simp)
          have hr8 := HR7.out.keep HC8.out (by simp)
          have hin := fun z => input_any hb8 z
          have hwt := fun z => waits_any hb8 z
          have c2 := hr8.c2
          have hci := hr8.ci
          have HIN := Lib.hid hin
          have HWT := Lib.hid hwt
          have HCI := Lib.hid hci
          have HEQ := Lib.hid HN.out
          rw [HN.out] at c2
          clear hb8 hr8 hin hwt hci
          go_wp2_with fail
          go_loopw [18] (fun i wr => ∃ z : Int, -1 ≤ z ∧ z ≤ n + 1 ∧ i = .int .i64 z ∧ wr = wc) (fun i _ => ((n : Int) + 1 - intOf i).toNat)
          case atStart => exact ⟨-1, by omega, by omega, rfl, rfl⟩
          case round =>
            obtain ⟨z, hz1, hz2, rfl, rfl⟩ := hrel
            by_cases hzn : z ≤ n
            · by_cases hr : 0 ≤ z ∧ z < n
              · obtain ⟨q, rfl⟩ := Int.eq_ofNat_of_zero_le hr.1
                have hqn : q < n := by omega
                have hqI : q < I.length := by rw [HEQ.out]; exact hqn
                have hin := HIN.out (q : Int)
                have hwt := HWT.out (q : Int)
                have hqs : inS I (q : Int) = I[q] := by unfold inS inB; simp [hqI]
                rw [hqs] at hin hwt
                have ci := HCI.out q hqI
                obtain ⟨s, hs⟩ : ∃ s, s = I[q] := ⟨_, rfl⟩
                rw [← hs] at hin hwt ci
                have H1 := Lib.hid hin
                have H2 := Lib.hid hwt
                clear hin hwt hqs hs hqI
                go_wp2_with fail
                refine H1.out.mono ?_
                rintro e w9 ⟨rfl, rfl⟩
                go_wp2_with fail
                refine H2.out.mono ?_
                rintro e w9 ⟨rfl, rfl⟩
                go_wp2
                go_roundw
                case rel => exact ⟨(q : Int) + 1, by omega, by omega, rfl, by first | rfl | trivial⟩
                case measure => simp [intOf]; omega
              · have hin := HIN.out z
                have hwt := HWT.out z
                have hqs : inS I z = ⟨#[]⟩ := by
                  have : inB z I.length = false := by unfold inB; rw [HEQ.out]; simp; omega
                  unfold inS; rw [this]; rfl
                rw [hqs] at hin hwt
                have H1 := Lib.hid hin
                have H2 := Lib.hid hwt
                clear hin hwt hqs
                by_cases h0 : 0 ≤ z
                · have d0 : decide (z ≥ 0) = true := by simpa using h0
                  have d1 : decide (z < (n : Int)) = false := by simp; omega
                  go_wp2_with fail
                  refine H1.out.mono ?_
                  rintro e w9 ⟨rfl, rfl⟩
                  go_wp2_with fail
                  refine H2.out.mono ?_
                  rintro e w9 ⟨rfl, rfl⟩
                  go_wp2
                  go_roundw
                  case rel => exact ⟨z + 1, by omega, by omega, rfl, by first | rfl | trivial⟩
                  case measure => simp [intOf]; omega
                · have d0 : decide (z ≥ 0) = false := by simpa using h0
                  go_wp2_with fail
                  refine H1.out.mono ?_
                  rintro e w9 ⟨rfl, rfl⟩
                  go_wp2_with fail
                  refine H2.out.mono ?_
                  rintro e w9 ⟨rfl, rfl⟩
                  go_wp2
                  go_roundw
                  case rel => exact ⟨z + 1, by omega, by omega, rfl, by first | rfl | trivial⟩
                  case measure => simp [intOf]; omega
            · obtain rfl : z = n + 1 := by omega
              go_wp2_with fail
              go_roundw
              case rel => exact ⟨k + 1, hlt, by go_num, (HE7.out.keep HC8.out (by simp)).up, (FrameP.belowW (M := 0) ⟨[], HC8.out, by simp⟩ HW7.out)⟩
              case measure => simp [intOf]; omega
    · obtain rfl : k = len := by omega
      go_wp2
      go_ret
      exact ⟨rfl, HW.out⟩
end Go.Proofs.L
