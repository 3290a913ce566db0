/- Proved here: lemmas and contracts (Write) for the laws of this seat, for all values of the stated types; no further condition. -/
import Derived.Test.YtfalldoimbedbaaBase
open Go Go.RowKit Go.Lib
namespace Go.Proofs.L
def FS.write (S : FS) (i x : Nat) : FS := if S.okB then { S.step with f := up S.f i (S.f i &&& x) } else if S.lastB then { S.step with f := up S.f i (S.f i &&& (x ||| (4294967295 - S.tn))) } else S.step
theorem up_lt {f : Nat → Nat} {m : Nat} (h : ∀ i, f i < m) {i v : Nat} (hv : v < m) : ∀ j, up f i v j < m := by
  intro j; unfold up; split
  · exact hv
  · exact h j
theorem FS.Ok.write {S : FS} (h : S.Ok) (i x : Nat) : (S.write i x).Ok := by
  have hs := h.step
  unfold FS.write
  split
  · exact ⟨up_lt h.f (and_lt _ _ (h.f i)), hs.tn, hs.fu⟩
  · split
    · exact ⟨up_lt h.f (and_lt _ _ (h.f i)), hs.tn, hs.fu⟩
    · exact hs
def errW (S : FS) : Int := if S.okB then 0 else 19
theorem write_out (pv : Value) (i : Int) (x : Int) (hi : pv = .pointer none ∨ ((∃ b, pv = .pointer (some ⟨b, 0, none⟩)) ∧ ¬ (0 ≤ i ∧ i < 32))) (w : World) : Calls Try.prog 10 #[pv, .int .i64 i, .int .u32 x] w fun e w' => e = .returned (.int .i64 1) ∧ w' = w := by
  rcases hi with rfl | ⟨⟨b, rfl⟩, hi⟩
  · go_enter Try.func10, Try.ntmps10
    go_wp2
    go_ret
    exact ⟨rfl, rfl⟩
  · by_cases h0 : i < 0
    · have d0 : decide (i < 0) = true := by simpa using h0
      go_enter Try.func10, Try.ntmps10
      go_wp2
      go_ret
      exact ⟨rfl, rfl⟩
    · have d0 : decide (i < 0) = false := by simpa using h0
      have d1 : decide (32 ≤ i) = true := by simp; omega
      have d2 : decide (i ≥ 32) = true := by simp; omega
      go_enter Try.func10, Try.ntmps10
      go_wp2
      go_ret
      exact ⟨rfl, rfl⟩
theorem write_in {w b S} (h : Fl w b S) (hS : S.Ok) (i x : Nat) (hi : i < 32) (hx : x < 4294967296) : Calls Try.prog 10 #[.pointer (some ⟨b, 0, none⟩), .int .i64 i, .int .u32 (x : Int)] w fun e w' => e = .returned (.int .i64 (errW S)) ∧ Fl w' b (S.write i x) ∧ Chg [b] w w' := by
  have hst := Lib.hid (step_any h hS)
  have hI : (i : Int) < 32 := by omega
  have d0 : decide ((i : Int) < 0) = false := by simp
  have d1 : decide (32 ≤ (i : Int)) = false := by simp; omega
  have d2 : decide ((i : Int) ≥ 32) = false := by simp; omega
  have a1 := and32 (S.f i) x (hS.f i) hx
  have a2 := not32 S.tn hS.tn
  have a3 := or32 x (4294967295 - S.tn) hx (by omega)
  have a4 := and32 (S.f i) (x ||| (4294967295 - S.tn)) (hS.f i) (or_lt _ _ hx (by omega))
  clear h hS hx
  go_enter Try.func10, Try.ntmps10
  go_wp2_with fail
  refine hst.out.mono ?_
  rintro e w1 ⟨rfl, h1, hc1⟩
  have HC := Lib.hid hc1
  have H1 := Lib.hid h1
  have ci := h1.ci i hi
  have c3 := h1.c33
  have fi := h1.fr i
  rw [S.step_f] at ci
  rw [S.step_to] at c3
  clear hst h1 hc1
  cases ho : S.okB with
  | true =>
    go_wp2_with fail
    refine wp_region_C (fun w' => w'.cell? ⟨b, i, none⟩ = some (.int .u32 (S.f i : Int))) [(0, 0), (1, 0), (2, 0), (3, 0), (4, 0), (5, 1), (6, 0), (7, 0), (8, 0), (9, 0), (10, 0), (11, 3)] rfl (by kernel_rfl) ?hS5 ?hT5
    case hS5 => exact ci
    refine wpT_pureD (v := ?_) (some 26) rfl rfl (by rfl) (fun w' => ?_) ?_
    rotate_left
    · (go_simp; try with_reducible rfl)
    try simp only [Act.put, List.setIfInBounds_toArray, List.set_cons_zero, List.set_cons_succ]
    refine wpT_pureD (v := ?_) (some 27) rfl rfl (by rfl) (fun w' => ?_) ?_
    rotate_left
    · (go_simp; try with_reducible rfl)
    try simp only [Act.put, List.setIfInBounds_toArray, List.set_cons_zero, List.set_cons_succ]
    refine wpT_pureD (v := ?_) (some 28) rfl rfl (by rfl) (fun w' => ?_) ?_
    rotate_left
    · (go_simp; try with_reducible rfl)
    try simp only [Act.put, List.setIfInBounds_toArray, List.set_cons_zero, List.set_cons_succ]
    refine wpT_pureD (v := ?_) (some 29) rfl rfl (by rfl) (fun w' => ?_) ?_
    rotate_left
    · (go_simp; try with_reducible rfl)
    try simp only [Act.put, List.setIfInBounds_toArray, List.set_cons_zero, List.set_cons_succ]
    refine wpT_pureD (v := ?_) (some 30) rfl rfl (by rfl) (fun w' => ?_) ?_
    rotate_left
    · (go_simp; try with_reducible rfl)
    try simp only [Act.put, List.setIfInBounds_toArray, List.set_cons_zero, List.set_cons_succ]
    refine wpT_readD (v := ?_) (some 31) rfl rfl (by rfl) (fun w' hw => ?_) ?_
    rotate_left
    · (obtain q0 := hw; go_simp; try with_reducible rfl)
    try simp only [Act.put, List.setIfInBounds_toArray, List.set_cons_zero, List.set_cons_succ]
    refine wpT_pureD (v := ?_) (some 32) rfl rfl (by rfl) (fun w' => ?_) ?_
    rotate_left
    · (go_simp; try with_reducible rfl)
    try simp only [Act.put, List.setIfInBounds_toArray, List.set_cons_zero, List.set_cons_succ]
    refine wpT_pureD (v := ?_) (some 33) rfl rfl (by rfl) (fun w' => ?_) ?_
    rotate_left
    · (go_simp; try with_reducible rfl)
    try simp only [Act.put, List.setIfInBounds_toArray, List.set_cons_zero, List.set_cons_succ]
    refine wpT_pureD (v := ?_) (some 34) rfl rfl (by rfl) (fun w' => ?_) ?_
    rotate_left
    · (go_simp; try with_reducible rfl)
    try simp only [Act.put, List.setIfInBounds_toArray, List.set_cons_zero, List.set_cons_succ]
    refine wpT_pureD (v := ?_) (some 35) rfl rfl (by rfl) (fun w' => ?_) ?_
    rotate_left
    · (go_simp; try with_reducible rfl)
    try simp only [Act.put, List.setIfInBounds_toArray, List.set_cons_zero, List.set_cons_succ]
    refine wpT_pureD (v := ?_) (some 36) rfl rfl (by rfl) (fun w' => ?_) ?_
    rotate_left
    · (go_simp; try with_reducible rfl)
    try simp only [Act.put, List.setIfInBounds_toArray, List.set_cons_zero, List.set_cons_succ]
    refine wpT_brk rfl (by rfl) (fun K hK => ?_)
    go_wp2_with fail
    refine wpT_end ?_
    go_wp2
    go_ret
    refine ⟨by simp [errW, ho], ?_, ?_⟩
    · have := (H1.out.set i (S.f i &&& x) hi).keep (E := []) (Chg.refl _ _).drew (by simp)
      simpa [FS.write, ho, S.step_f] using this
    · first | exact (HC.out.setCell (Or.inl (by simp)) _).drew | exact (HC.out.drew.setCell (Or.inl (by simp)) _)
  | false =>
    cases hl : S.lastB with
    | true =>
      go_wp2_with fail
      refine wp_region_C (fun w' => w'.cell? ⟨b, i, none⟩ = some (.int .u32 (S.f i : Int)) ∧ w'.cell? ⟨b, 33, none⟩ = some (.int .u32 (S.tn : Int))) [(0, 0), (1, 0), (2, 0), (3, 0), (4, 0), (5, 1), (6, 0), (7, 0), (8, 0), (9, 0), (10, 1), (11, 0), (12, 0), (13, 0), (14, 0), (15, 0), (16, 0), (17, 3)] rfl (by kernel_rfl) ?hS8 ?hT8
      case hS8 => exact ⟨ci, c3⟩
      refine wpT_pureD (v := ?_) (some 39) rfl rfl (by rfl) (fun w' => ?_) ?_
      rotate_left
      · (go_simp; try with_reducible rfl)
      try simp only [Act.put, List.setIfInBounds_toArray, List.set_cons_zero, List.set_cons_succ]
      refine wpT_pureD (v := ?_) (some 40) rfl rfl (by rfl) (fun w' => ?_) ?_
      rotate_left
      · (go_simp; try with_reducible rfl)
      try simp only [Act.put, List.setIfInBounds_toArray, List.set_cons_zero, List.set_cons_succ]
      refine wpT_pureD (v := ?_) (some 41) rfl rfl (by rfl) (fun w' => ?_) ?_
      rotate_left
      · (go_simp; try with_reducible rfl)
      try simp only [Act.put, List.setIfInBounds_toArray, List.set_cons_zero, List.set_cons_succ]
      refine wpT_pureD (v := ?_) (some 42) rfl rfl (by rfl) (fun w' => ?_) ?_
      rotate_left
      · (go_simp; try with_reducible rfl)
      try simp only [Act.put, List.setIfInBounds_toArray, List.set_cons_zero, List.set_cons_succ]
      refine wpT_pureD (v := ?_) (some 43) rfl rfl (by rfl) (fun w' => ?_) ?_
      rotate_left
      · (go_simp; try with_reducible rfl)
      try simp only [Act.put, List.setIfInBounds_toArray, List.set_cons_zero, List.set_cons_succ]
      refine wpT_readD (v := ?_) (some 44) rfl rfl (by rfl) (fun w' hw => ?_) ?_
      rotate_left
      · (obtain ⟨q0, q1⟩ := hw; go_simp; try with_reducible rfl)
      try simp only [Act.put, List.setIfInBounds_toArray, List.set_cons_zero, List.set_cons_succ]
      refine wpT_pureD (v := ?_) (some 45) rfl rfl (by rfl) (fun w' => ?_) ?_
      rotate_left
      · (go_simp; try with_reducible rfl)
      try simp only [Act.put, List.setIfInBounds_toArray, List.set_cons_zero, List.set_cons_succ]
      refine wpT_pureD (v := ?_) (some 46) rfl rfl (by rfl) (fun w' => ?_) ?_
      rotate_left
      · (go_simp; try with_reducible rfl)
      try simp only [Act.put, List.setIfInBounds_toArray, List.set_cons_zero, List.set_cons_succ]
      refine wpT_pureD (v := ?_) (some 47) rfl rfl (by rfl) (fun w' => ?_) ?_
      rotate_left
      · (go_simp; try with_reducible rfl)
      try simp only [Act.put, List.setIfInBounds_toArray, List.set_cons_zero, List.set_cons_succ]
      refine wpT_pureD (v := ?_) (some 48) rfl rfl (by rfl) (fun w' => ?_) ?_
      rotate_left
      · (go_simp; try with_reducible rfl)
      try simp only [Act.put, List.setIfInBounds_toArray, List.set_cons_zero, List.set_cons_succ]
      refine wpT_readD (v := ?_) (some 49) rfl rfl (by rfl) (fun w' hw => ?_) ?_
      rotate_left
      · (obtain ⟨q0, q1⟩ := hw; go_simp; try with_reducible rfl)
      try simp only [Act.put, List.setIfInBounds_toArray, List.set_cons_zero, List.set_cons_succ]
      refine wpT_pureD (v := ?_) (some 50) rfl rfl (by rfl) (fun w' => ?_) ?_
      rotate_left
      · (go_simp; try with_reducible rfl)
      try simp only [Act.put, List.setIfInBounds_toArray, List.set_cons_zero, List.set_cons_succ]
      refine wpT_pureD (v := ?_) (some 51) rfl rfl (by rfl) (fun w' => ?_) ?_
      rotate_left
      · (go_simp; try with_reducible rfl)
      try simp only [Act.put, List.setIfInBounds_toArray, List.set_cons_zero, List.set_cons_succ]
      refine wpT_pureD (v := ?_) (some 52) rfl rfl (by rfl) (fun w' => ?_) ?_
      rotate_left
      · (go_simp; try with_reducible rfl)
      try simp only [Act.put, List.setIfInBounds_toArray, List.set_cons_zero, List.set_cons_succ]
      refine wpT_pureD (v := ?_) (some 53) rfl rfl (by rfl) (fun w' => ?_) ?_
      rotate_left
      · (go_simp; try with_reducible rfl)
      try simp only [Act.put, List.setIfInBounds_toArray, List.set_cons_zero, List.set_cons_succ]
      refine wpT_pureD (v := ?_) (some 54) rfl rfl (by rfl) (fun w' => ?_) ?_
      rotate_left
      · (go_simp; try with_reducible rfl)
      try simp only [Act.put, List.setIfInBounds_toArray, List.set_cons_zero, List.set_cons_succ]
      refine wpT_pureD (v := ?_) (some 55) rfl rfl (by rfl) (fun w' => ?_) ?_
      rotate_left
      · (go_simp; try with_reducible rfl)
      try simp only [Act.put, List.setIfInBounds_toArray, List.set_cons_zero, List.set_cons_succ]
      refine wpT_brk rfl (by rfl) (fun K hK => ?_)
      go_wp2_with fail
      refine wpT_end ?_
      go_wp2
      go_ret
      refine ⟨by simp [errW, ho], ?_, ?_⟩
      · have := (H1.out.set i (S.f i &&& (x ||| (4294967295 - S.tn))) hi).keep (E := []) (Chg.refl _ _).drew (by simp)
        simpa [FS.write, ho, hl, S.step_f] using this
      · first | exact (HC.out.setCell (Or.inl (by simp)) _).drew | exact (HC.out.drew.setCell (Or.inl (by simp)) _)
    | false =>
      go_wp2
      go_ret
      exact ⟨by simp [errW, ho], by simpa [FS.write, ho, hl] using H1.out, HC.out⟩
end Go.Proofs.L
