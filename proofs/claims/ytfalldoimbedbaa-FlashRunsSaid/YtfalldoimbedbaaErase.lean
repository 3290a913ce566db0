/- Proved here: lemmas and contracts (Erase) for the laws of this seat, for all values of the stated types; no further condition. -/
import Derived.Test.YtfalldoimbedbaaWrite
open Go Go.RowKit Go.Lib
namespace Go.Proofs.L
theorem i64w (z : Int) : IntKind.i64.wrap z = wrap64 z := by simp [IntKind.wrap, IntKind.bits, IntKind.signed, wrap64]; split <;> omega
def eraseW (f : Nat → Nat) (z m n : Nat) : Nat → Nat := fun j => if z ≤ j ∧ j < z + n then f j ||| m else f j
theorem eraseW_zero (f z m) : eraseW f z m 0 = f := by funext j; unfold eraseW; rw [if_neg (by omega)]
theorem eraseW_succ (f z m n) : up (eraseW f z m n) (z + n) (f (z + n) ||| m) = eraseW f z m (n + 1) := by
  funext j
  unfold up eraseW
  by_cases h : j = z + n
  · subst h; rw [if_pos rfl, if_pos (by omega)]
  · rw [if_neg h]
    by_cases h2 : z ≤ j ∧ j < z + n
    · rw [if_pos h2, if_pos (by omega)]
    · rw [if_neg h2, if_neg (by omega)]
theorem eraseW_at (f z m n) : eraseW f z m n (z + n) = f (z + n) := by unfold eraseW; rw [if_neg (by omega)]
theorem eraseW_lt {f : Nat → Nat} (h : ∀ i, f i < 4294967296) {m : Nat} (hm : m < 4294967296) (z n) : ∀ j, eraseW f z m n j < 4294967296 := by
  intro j; unfold eraseW; split
  · exact or_lt _ _ (h j) hm
  · exact h j
def FS.erase (S : FS) (s : Nat) : FS := if S.okB then { S.step with f := eraseW S.f (16 * s) 4294967295 16 } else if S.lastB then { S.step with f := eraseW S.f (16 * s) S.tn 16 } else S.step
theorem FS.Ok.erase {S : FS} (h : S.Ok) (s : Nat) : (S.erase s).Ok := by
  have hs := h.step
  unfold FS.erase
  split
  · exact ⟨eraseW_lt h.f (by decide) _ _, hs.tn, hs.fu⟩
  · split
    · exact ⟨eraseW_lt h.f h.tn _ _, hs.tn, hs.fu⟩
    · exact hs
theorem erase_out (pv : Value) (i : Int) (hi : pv = .pointer none ∨ ((∃ b, pv = .pointer (some ⟨b, 0, none⟩)) ∧ ¬ (0 ≤ i ∧ i < 2))) (w : World) : Calls Try.prog 12 #[pv, .int .i64 i] w fun e w' => e = .returned (.int .i64 1) ∧ w' = w := by
  rcases hi with rfl | ⟨⟨b, rfl⟩, hi⟩
  · go_enter Try.func12, Try.ntmps12
    go_wp2
    go_ret
    exact ⟨rfl, rfl⟩
  · by_cases h0 : i < 0
    · have d0 : decide (i < 0) = true := by simpa using h0
      go_enter Try.func12, Try.ntmps12
      go_wp2
      go_ret
      exact ⟨rfl, rfl⟩
    · have d0 : decide (i < 0) = false := by simpa using h0
      have d1 : decide (2 ≤ i) = true := by simp; omega
      have d2 : decide (i ≥ 2) = true := by simp; omega
      go_enter Try.func12, Try.ntmps12
      go_wp2
      go_ret
      exact ⟨rfl, rfl⟩
theorem erase_in {w b S} (h : Fl w b S) (hS : S.Ok) (s : Nat) (hs : s < 2) : Calls Try.prog 12 #[.pointer (some ⟨b, 0, none⟩), .int .i64 s] w fun e w' => e = .returned (.int .i64 (errW S)) ∧ Fl w' b (S.erase s) ∧ Chg [b] w w' := by
  have hst := Lib.hid (step_any h hS)
  have d0 : decide ((s : Int) < 0) = false := by simp
  have d1 : decide (2 ≤ (s : Int)) = false := by simp; omega
  have d2 : decide ((s : Int) ≥ 2) = false := by simp; omega
  obtain ⟨z, hz⟩ : ∃ z, z = 16 * s := ⟨_, rfl⟩
  have hm : wrap64 ((s : Int) * 16) = (z : Int) := by rw [IntWalk.wrap64_in _ ⟨by omega, by omega⟩, hz]; omega
  have hm2 : IntKind.i64.wrap ((s : Int) * 16) = (z : Int) := by rw [i64w]; exact hm
  have HZ : Hid (z + 16 ≤ 32) := Lib.hid (by omega)
  have HZ2 := Lib.hid hz
  have HS := Lib.hid hS
  clear h hS hz
  go_enter Try.func12, Try.ntmps12
  go_wp2_with fail
  refine hst.out.mono ?_
  rintro e w1 ⟨rfl, h1, hc1⟩
  have HC := Lib.hid hc1
  have H1 := Lib.hid h1
  have c3 := h1.c33
  rw [S.step_to] at c3
  clear hst h1 hc1
  cases ho : S.okB with
  | true =>
    have hl : S.lastB = false := by
      unfold FS.okB at ho; unfold FS.lastB; cases hd : S.de <;> simp [hd] at ho ⊢; exact ho
    rw [hl]
    go_wp2_with fail
    go_loopw [33] (fun i wr => ∃ k : Nat, k ≤ 16 ∧ i = .int .i64 k ∧ Fl wr b { S.step with f := eraseW S.f z 4294967295 k } ∧ Chg [b] w wr) (fun i _ => 16 - (intOf i).toNat)
    case atStart => exact ⟨0, by omega, rfl, by rw [eraseW_zero, ← S.step_f]; exact H1.out, HC.out⟩
    case round =>
      obtain ⟨k, hk, rfl, hF, hC⟩ := hrel
      obtain ⟨wo, rfl⟩ : ∃ wo : World, wo = wr := ⟨_, rfl⟩
      have HF := Lib.hid hF
      have HCk := Lib.hid hC
      by_cases hk2 : k < 16
      · obtain ⟨q, hq⟩ : ∃ q, q = z + k := ⟨_, rfl⟩
        have hqn : q < 32 := by have := HZ.out; omega
        have hqI : (q : Int) < 32 := by omega
        have hqw : wrap64 ((z : Int) + (k : Int)) = (q : Int) := by rw [IntWalk.wrap64_in _ ⟨by omega, by have := HZ.out; omega⟩, hq]; omega
        have hqw2 : IntKind.i64.wrap ((z : Int) + (k : Int)) = (q : Int) := by rw [i64w]; exact hqw
        have cq := hF.ci q hqn
        have fq := hF.fr q
        have hval : ({ S.step with f := eraseW S.f z 4294967295 k } : FS).f q = S.f q := by rw [hq]; exact eraseW_at _ _ _ _
        rw [hval] at cq
        have a1 : bits .or .u32 (S.f q : Int) 4294967295 = ((S.f q ||| 4294967295 : Nat) : Int) := or32 (S.f q) 4294967295 (HS.out.f q) (by decide)
        have HQ := Lib.hid hq
        clear hF hC hval hq c3
        go_wp2_with fail
        refine wp_region_C (fun w' => w'.cell? ⟨b, q, none⟩ = some (.int .u32 (S.f q : Int))) [(0, 0), (1, 0), (2, 0), (3, 0), (4, 0), (5, 0), (6, 0), (7, 0), (8, 1), (9, 0), (10, 0), (11, 0), (12, 0), (13, 0), (14, 3)] rfl (by kernel_rfl) ?hSA ?hTA
        case hSA => exact cq
        refine wpT_pureD (v := ?_) (some 36) rfl rfl (by rfl) (fun w' => ?_) ?_
        rotate_left
        · (go_simp; try with_reducible rfl)
        try simp only [Act.put, List.setIfInBounds_toArray, List.set_cons_zero, List.set_cons_succ]
        refine wpT_pureD (v := ?_) (some 37) rfl rfl (by rfl) (fun w' => ?_) ?_
        rotate_left
        · (go_simp; try with_reducible rfl)
        try simp only [Act.put, List.setIfInBounds_toArray, List.set_cons_zero, List.set_cons_succ]
        refine wpT_pureD (v := ?_) (some 38) rfl rfl (by rfl) (fun w' => ?_) ?_
        rotate_left
        · (go_simp; try with_reducible rfl)
        try simp only [Act.put, List.setIfInBounds_toArray, List.set_cons_zero, List.set_cons_succ]
        refine wpT_pureD (v := ?_) (some 39) rfl rfl (by rfl) (fun w' => ?_) ?_
        rotate_left
        · (go_simp; try with_reducible rfl)
        try simp only [Act.put, List.setIfInBounds_toArray, List.set_cons_zero, List.set_cons_succ]
        refine wpT_pureD (v := ?_) (some 40) rfl rfl (by rfl) (fun w' => ?_) ?_
        rotate_left
        · (go_simp; try with_reducible rfl)
        try simp only [Act.put, List.setIfInBounds_toArray, List.set_cons_zero, List.set_cons_succ]
        refine wpT_pureD (v := ?_) (some 41) rfl rfl (by rfl) (fun w' => ?_) ?_
        rotate_left
        · (go_simp; try with_reducible rfl)
        try simp only [Act.put, List.setIfInBounds_toArray, List.set_cons_zero, List.set_cons_succ]
        refine wpT_pureD (v := ?_) (some 42) rfl rfl (by rfl) (fun w' => ?_) ?_
        rotate_left
        · (go_simp; try with_reducible rfl)
        try simp only [Act.put, List.setIfInBounds_toArray, List.set_cons_zero, List.set_cons_succ]
        refine wpT_pureD (v := ?_) (some 43) rfl rfl (by rfl) (fun w' => ?_) ?_
        rotate_left
        · (go_simp; try with_reducible rfl)
        try simp only [Act.put, List.setIfInBounds_toArray, List.set_cons_zero, List.set_cons_succ]
        refine wpT_readD (v := ?_) (some 44) rfl rfl (by rfl) (fun w' hw => ?_) ?_
        rotate_left
        · (obtain q0 := hw; go_simp; try with_reducible rfl)
        try simp only [Act.put, List.setIfInBounds_toArray, List.set_cons_zero, List.set_cons_succ]
        refine wpT_pureD (v := ?_) (some 45) rfl rfl (by rfl) (fun w' => ?_) ?_
        rotate_left
        · (go_simp; try with_reducible rfl)
        try simp only [Act.put, List.setIfInBounds_toArray, List.set_cons_zero, List.set_cons_succ]
        refine wpT_pureD (v := ?_) (some 46) rfl rfl (by rfl) (fun w' => ?_) ?_
        rotate_left
        · (go_simp; try with_reducible rfl)
        try simp only [Act.put, List.setIfInBounds_toArray, List.set_cons_zero, List.set_cons_succ]
        refine wpT_pureD (v := ?_) (some 47) rfl rfl (by rfl) (fun w' => ?_) ?_
        rotate_left
        · (go_simp; try with_reducible rfl)
        try simp only [Act.put, List.setIfInBounds_toArray, List.set_cons_zero, List.set_cons_succ]
        refine wpT_pureD (v := ?_) (some 48) rfl rfl (by rfl) (fun w' => ?_) ?_
        rotate_left
        · (go_simp; try with_reducible rfl)
        try simp only [Act.put, List.setIfInBounds_toArray, List.set_cons_zero, List.set_cons_succ]
        refine wpT_pureD (v := ?_) (some 49) rfl rfl (by rfl) (fun w' => ?_) ?_
        rotate_left
        · (go_simp; try with_reducible rfl)
        try simp only [Act.put, List.setIfInBounds_toArray, List.set_cons_zero, List.set_cons_succ]
        refine wpT_brk rfl (by rfl) (fun K hK => ?_)
        go_wp2_with fail
        refine wpT_end ?_
        go_wp2
        have e : up (eraseW S.f z 4294967295 k) q (S.f q ||| 4294967295) = eraseW S.f z 4294967295 (k + 1) := by rw [HQ.out]; exact eraseW_succ _ _ _ _
        have g := HF.out.set q (S.f q ||| 4294967295) hqn
        rw [show ({ S.step with f := eraseW S.f z 4294967295 k } : FS).f = eraseW S.f z 4294967295 k from rfl, e] at g
        refine ⟨⟨k + 1, by omega, by first | rfl | go_num, g.keep (E := []) (Chg.refl _ _).drew (by simp), by first | exact (HCk.out.setCell (Or.inl (by simp)) _).drew | exact HCk.out.drew.setCell (Or.inl (by simp)) _⟩, ?_⟩
        simp only [intOf]
        omega
      · obtain rfl : k = 16 := by omega
        clear hF hC c3
        go_wp2
        go_ret
        exact ⟨by simp [errW, ho], by simpa [FS.erase, ho, hl, HZ2.out] using HF.out, HCk.out⟩
  | false =>
    cases hl : S.lastB with
    | true =>
      go_wp2_with fail
      go_loopw [33] (fun i wr => ∃ k : Nat, k ≤ 16 ∧ i = .int .i64 k ∧ Fl wr b { S.step with f := eraseW S.f z S.tn k } ∧ Chg [b] w wr) (fun i _ => 16 - (intOf i).toNat)
      case atStart => exact ⟨0, by omega, rfl, by rw [eraseW_zero, ← S.step_f]; exact H1.out, HC.out⟩
      case round =>
        obtain ⟨k, hk, rfl, hF, hC⟩ := hrel
        obtain ⟨wo, rfl⟩ : ∃ wo : World, wo = wr := ⟨_, rfl⟩
        have HF := Lib.hid hF
        have HCk := Lib.hid hC
        by_cases hk2 : k < 16
        · obtain ⟨q, hq⟩ : ∃ q, q = z + k := ⟨_, rfl⟩
          have hqn : q < 32 := by have := HZ.out; omega
          have hqI : (q : Int) < 32 := by omega
          have hqw : wrap64 ((z : Int) + (k : Int)) = (q : Int) := by rw [IntWalk.wrap64_in _ ⟨by omega, by have := HZ.out; omega⟩, hq]; omega
          have hqw2 : IntKind.i64.wrap ((z : Int) + (k : Int)) = (q : Int) := by rw [i64w]; exact hqw
          have cq := hF.ci q hqn
          have fq := hF.fr q
          have hval : ({ S.step with f := eraseW S.f z S.tn k } : FS).f q = S.f q := by rw [hq]; exact eraseW_at _ _ _ _
          rw [hval] at cq
          have a1 : bits .or .u32 (S.f q : Int) (S.tn : Int) = ((S.f q ||| S.tn : Nat) : Int) := or32 (S.f q) S.tn (HS.out.f q) HS.out.tn
          have HQ := Lib.hid hq
          clear hF hC hval hq c3
          go_wp2_with fail
          refine wp_region_C (fun w' => w'.cell? ⟨b, q, none⟩ = some (.int .u32 (S.f q : Int))) [(0, 0), (1, 0), (2, 0), (3, 0), (4, 0), (5, 0), (6, 0), (7, 0), (8, 1), (9, 0), (10, 0), (11, 0), (12, 0), (13, 0), (14, 3)] rfl (by kernel_rfl) ?hSB ?hTB
          case hSB => exact cq
          refine wpT_pureD (v := ?_) (some 36) rfl rfl (by rfl) (fun w' => ?_) ?_
          rotate_left
          · (go_simp; try with_reducible rfl)
          try simp only [Act.put, List.setIfInBounds_toArray, List.set_cons_zero, List.set_cons_succ]
          refine wpT_pureD (v := ?_) (some 37) rfl rfl (by rfl) (fun w' => ?_) ?_
          rotate_left
          · (go_simp; try with_reducible rfl)
          try simp only [Act.put, List.setIfInBounds_toArray, List.set_cons_zero, List.set_cons_succ]
          refine wpT_pureD (v := ?_) (some 38) rfl rfl (by rfl) (fun w' => ?_) ?_
          rotate_left
          · (go_simp; try with_reducible rfl)
          try simp only [Act.put, List.setIfInBounds_toArray, List.set_cons_zero, List.set_cons_succ]
          refine wpT_pureD (v := ?_) (some 39) rfl rfl (by rfl) (fun w' => ?_) ?_
          rotate_left
          · (go_simp; try with_reducible rfl)
          try simp only [Act.put, List.setIfInBounds_toArray, List.set_cons_zero, List.set_cons_succ]
          refine wpT_pureD (v := ?_) (some 40) rfl rfl (by rfl) (fun w' => ?_) ?_
          rotate_left
          · (go_simp; try with_reducible rfl)
          try simp only [Act.put, List.setIfInBounds_toArray, List.set_cons_zero, List.set_cons_succ]
          refine wpT_pureD (v := ?_) (some 41) rfl rfl (by rfl) (fun w' => ?_) ?_
          rotate_left
          · (go_simp; try with_reducible rfl)
          try simp only [Act.put, List.setIfInBounds_toArray, List.set_cons_zero, List.set_cons_succ]
          refine wpT_pureD (v := ?_) (some 42) rfl rfl (by rfl) (fun w' => ?_) ?_
          rotate_left
          · (go_simp; try with_reducible rfl)
          try simp only [Act.put, List.setIfInBounds_toArray, List.set_cons_zero, List.set_cons_succ]
          refine wpT_pureD (v := ?_) (some 43) rfl rfl (by rfl) (fun w' => ?_) ?_
          rotate_left
          · (go_simp; try with_reducible rfl)
          try simp only [Act.put, List.setIfInBounds_toArray, List.set_cons_zero, List.set_cons_succ]
          refine wpT_readD (v := ?_) (some 44) rfl rfl (by rfl) (fun w' hw => ?_) ?_
          rotate_left
          · (obtain q0 := hw; go_simp; try with_reducible rfl)
          try simp only [Act.put, List.setIfInBounds_toArray, List.set_cons_zero, List.set_cons_succ]
          refine wpT_pureD (v := ?_) (some 45) rfl rfl (by rfl) (fun w' => ?_) ?_
          rotate_left
          · (go_simp; try with_reducible rfl)
          try simp only [Act.put, List.setIfInBounds_toArray, List.set_cons_zero, List.set_cons_succ]
          refine wpT_pureD (v := ?_) (some 46) rfl rfl (by rfl) (fun w' => ?_) ?_
          rotate_left
          · (go_simp; try with_reducible rfl)
          try simp only [Act.put, List.setIfInBounds_toArray, List.set_cons_zero, List.set_cons_succ]
          refine wpT_pureD (v := ?_) (some 47) rfl rfl (by rfl) (fun w' => ?_) ?_
          rotate_left
          · (go_simp; try with_reducible rfl)
          try simp only [Act.put, List.setIfInBounds_toArray, List.set_cons_zero, List.set_cons_succ]
          refine wpT_pureD (v := ?_) (some 48) rfl rfl (by rfl) (fun w' => ?_) ?_
          rotate_left
          · (go_simp; try with_reducible rfl)
          try simp only [Act.put, List.setIfInBounds_toArray, List.set_cons_zero, List.set_cons_succ]
          refine wpT_pureD (v := ?_) (some 49) rfl rfl (by rfl) (fun w' => ?_) ?_
          rotate_left
          · (go_simp; try with_reducible rfl)
          try simp only [Act.put, List.setIfInBounds_toArray, List.set_cons_zero, List.set_cons_succ]
          refine wpT_brk rfl (by rfl) (fun K hK => ?_)
          go_wp2_with fail
          refine wpT_end ?_
          go_wp2
          have e : up (eraseW S.f z S.tn k) q (S.f q ||| S.tn) = eraseW S.f z S.tn (k + 1) := by rw [HQ.out]; exact eraseW_succ _ _ _ _
          have g := HF.out.set q (S.f q ||| S.tn) hqn
          rw [show ({ S.step with f := eraseW S.f z S.tn k } : FS).f = eraseW S.f z S.tn k from rfl, e] at g
          refine ⟨⟨k + 1, by omega, by first | rfl | go_num, g.keep (E := []) (Chg.refl _ _).drew (by simp), by first | exact (HCk.out.setCell (Or.inl (by simp)) _).drew | exact HCk.out.drew.setCell (Or.inl (by simp)) _⟩, ?_⟩
          simp only [intOf]
          omega
        · obtain rfl : k = 16 := by omega
          clear hF hC c3
          go_wp2
          go_ret
          exact ⟨by simp [errW, ho], by simpa [FS.erase, ho, hl, HZ2.out] using HF.out, HCk.out⟩
    | false =>
      go_wp2
      go_ret
      exact ⟨by simp [errW, ho], by simpa [FS.erase, ho, hl] using H1.out, HC.out⟩
end Go.Proofs.L
