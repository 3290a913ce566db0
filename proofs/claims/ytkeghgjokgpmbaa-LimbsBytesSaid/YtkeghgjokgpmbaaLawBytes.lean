/- Proved here: the law LimbsBytes returns true for every number, every slice of bytes and every int, and leaves its arguments as they were; no condition. -/
import Derived.Test.YtkeghgjokgpmbaaRows
import Derived.Test.YtkeghgjokgpmbaaByteLaw
import Derived.Test.YtkeghgjokgpmbaaClose
open Go Go.RowKit Go.ChangeShapes Go.WideShapes Go.ChangeAt
namespace Go.Proofs.Ytkeghgjokgpmbaa
open Go.Proofs.L
theorem open_num {H : Type} {enc : TypeId × Value → H} {W : World} {base : Nat} {v : Value} {d : DataW H} {ps : List MemPlace}
    (hv : Value.okWide Try.prog W .any base 24 v) (h : DataW.Trod enc Try.prog W 0 (fun _ => true) true 24 v d ps) : ∃ n, v = .agg (num n) ∧ T n := by
  obtain ⟨l, rfl, hl, hw⟩ := open_ints_arr (e := 22) (n := 8) (k := .u32) (by kernel_rfl) (by kernel_rfl) (by kernel_rfl) (by kernel_rfl) hv h
  have hb : ∀ x ∈ l, 0 ≤ x ∧ x < 4294967296 := by
    intro x hx
    have := hw x hx
    simp [Lit.wf, IntKind.min, IntKind.max, IntKind.signed, IntKind.bits] at this
    omega
  refine ⟨Go.Proofs.L.valOf l, by rw [num, dig_valOf l hl hb], ?_⟩
  have := valOf_lt l hb
  rw [hl] at this
  exact this
/-- the number of a list of bytes, the lowest first -/
def valB : List Int → Nat
  | [] => 0
  | x :: l => x.toNat + 256 * valB l
theorem valB_B8 (l : List Int) (h : ∀ x ∈ l, 0 ≤ x ∧ x < 256) : ∀ i, i < l.length → (B8 (valB l) i : Int) = l.getD i 0 := by
  induction l with
  | nil => intro i hi; simp at hi
  | cons x l ih =>
    intro i hi
    have hx := h x (by simp)
    have ih := ih (fun y hy => h y (by simp [hy]))
    cases i with
    | zero => simp only [B8, valB]; simp; omega
    | succ i =>
      have := ih i (by simpa using hi)
      rw [List.getD_cons_succ, ← this]
      congr 1
      unfold B8
      simp only [valB]
      rw [show 2 ^ (8 * (i + 1)) = 256 * 2 ^ (8 * i) from by rw [Nat.mul_add, Nat.pow_add, Nat.mul_comm], ← Nat.div_div_eq_div_mul]
      congr 2
      omega
theorem bytes_num (l : List Int) (hl : l.length = 32) (h : ∀ x ∈ l, 0 ≤ x ∧ x < 256) : ∃ k, ∀ i, i < 32 → l.getD i 0 = (B8 k (31 - i) : Int) := by
  refine ⟨valB l.reverse, fun i hi => ?_⟩
  rw [valB_B8 l.reverse (fun x hx => h x (by simpa using hx)) (31 - i) (by simp; omega)]
  simp only [List.getD_eq_getElem?_getD]
  rw [List.getElem?_reverse (by omega), hl, show 32 - 1 - (31 - i) = i from by omega]
theorem limbsBytes_calls (W : World) {H : Type} {enc : TypeId × Value → H} {base : Nat} {v0 v1 v2 : Value} {d0 d1 d2 : DataW H} {p0 p1 p2 : List MemPlace}
    (k0 : Value.okWide Try.prog W .any base 24 v0) (h0 : DataW.Trod enc Try.prog W 0 (fun _ => true) true 24 v0 d0 p0)
    (k1 : Value.okWide Try.prog W .any base 39 v1) (h1 : DataW.Trod enc Try.prog W 0 (fun _ => true) true 39 v1 d1 p1)
    (k2 : Value.okWide Try.prog W .any base 3 v2) (h2 : DataW.Trod enc Try.prog W 0 (fun _ => true) true 3 v2 d2 p2) :
    Calls Try.prog 6 #[v0, v1, v2] W fun e w' => e = .returned (.bool true) ∧ Below W.heap.size W w' := by
  obtain ⟨n, rfl, -⟩ := open_num k0 h0
  obtain ⟨i, rfl, -, -, -⟩ := open_int Try.underlying3 k2 h2
  obtain ⟨a, len, cap, rfl⟩ := okWide_slice Try.underlying39 k1
  obtain ⟨fuel, hf⟩ := h1
  rcases open_ints Try.underlying39 Try.underlying5 (by kernel_rfl) hf with ⟨hcs, _⟩ | ⟨x, l, c, zs, hcs, _, hl, hm, hz, _, hcell, hwz⟩
  · simp [Value.cells] at hcs
    obtain ⟨rfl, rfl, rfl⟩ := hcs
    exact lbytes_err n none 0 0 (by decide) i W
  · simp [Value.cells] at hcs
    obtain ⟨rfl, rfl, rfl⟩ := hcs
    by_cases h32 : len = 32
    · subst h32
      have hz' : zs.length = cap := by simpa using hz
      have hc0 := hcell 0 (by omega)
      obtain ⟨b, off, spot⟩ := x
      have hspot : spot = none := by simpa [Addr.add] using World.cell?_spot hc0
      subst hspot
      have hadd : ∀ i, (⟨b, off, none⟩ : Addr).add i = ⟨b, off + i, none⟩ := fun i => by unfold Addr.add; split <;> simp_all
      obtain ⟨k, hk⟩ := bytes_num (zs.take 32) (by simp; omega) (fun x hx => by
        have := hwz x (List.mem_of_mem_take hx)
        simp [Lit.wf, IntKind.min, IntKind.max, IntKind.signed, IntKind.bits] at this
        omega)
      refine lbytes_ok n k b off cap i W (fun j hj => ?_) ?_
      · have := hcell j (by omega)
        rw [hadd] at this
        rw [this, ← hk j hj]
        simp [List.getElem?_take, hj]
      · rw [hadd] at hc0
        exact World.block_lt_of_cell? _ _ hc0
    · exact lbytes_err n (some x) len cap h32 i W
theorem limbsBytes_own : ownKnob Try.prog.godebug = none := by kernel_rfl
theorem limbsBytes_laid : laidOutB Try.prog = true := by kernel_rfl
set_option maxRecDepth 100000 in
theorem limbsBytes_lifted (os : Os) (started : os.Started) (H : Type) (enc : TypeId × Value → H) :
    ReturnsInHanded {} Try.checked os 6 .any (Rows.limbsBytesSpec.pre6 enc Try.prog Try.f6 Rows.limbsBytesRow.domain false) (Rows.limbsBytesSpec.post enc Try.prog Try.f6 false true false false) := by
  refine returnsInHanded_of_change (C := Try.checked) limbsBytes_own started (by kernel_rfl) Try.func6
    (ChangeSpec.witness6 (enc := enc) (C := Try.checked) false ⟨#[], #[.agg #[.int .u32 0, .int .u32 0, .int .u32 0, .int .u32 0, .int .u32 0, .int .u32 0, .int .u32 0, .int .u32 0], .slice none 0 0, .int .i64 0], []⟩ 8 (by kernel_rfl) (by kernel_rfl) (by kernel_rfl) (by kernel_rfl)) ?_
  intro W base args ds gs before hval0 hW hcnd _
  have hval : ∀ (j : Nat) t v, Try.f6.params[j]? = some t → args[j]? = some v → Value.okWide Try.prog W .any base t v := hval0
  have hW' := hW
  have hlt : ∀ x ∈ before, x.block < W.heap.size := fun x hx => hW.lt x hx
  obtain ⟨p, q, hA0, hV, rfl, hfz, hnd⟩ := hW
  have hA : DataW.TrodAll enc Try.prog W 0 (fun _ => true) true Try.f6.params.toList args.toList ds p := hA0
  rw [Try.params6] at hA hval
  have hA1 := hA
  obtain ⟨v0, vs0, d0, ds0, p0, q0, hargs, rfl, rfl, h0, r0⟩ := trodAll_cons hA
  obtain ⟨v1, vs1, d1, ds1, p1, q1, rfl, rfl, rfl, h1, r1⟩ := trodAll_cons r0
  obtain ⟨v2, vs2, d2, ds2, p2, q2, rfl, rfl, rfl, h2, r2⟩ := trodAll_cons r1
  obtain ⟨rfl, rfl, rfl⟩ := trodAll_nil r2
  obtain rfl : args = #[v0, v1, v2] := by cases args; simp_all
  obtain ⟨rfl, rfl⟩ := trodVars_none hV
  have hc := limbsBytes_calls W (hval 0 24 v0 rfl rfl) h0 (hval 1 39 v1 rfl rfl) h1 (hval 2 3 v2 rfl rfl) h2
  clear hA0 hval0
  refine hc.mono fun e W' ⟨he, bel⟩ => ?_
  subst he
  exact ⟨_, rfl, _, _, _, [], _, [], hW', trodAll_mk1 (shut_bool Try.underlying4 _), trodAll_below limbsBytes_laid bel _ _ _ _ (by intro t ht; simp at ht; first | (rcases ht with rfl | rfl | rfl <;> exact ⟨by kernel_rfl, of_decide_eq_true (by kernel_rfl)⟩) | (subst ht; exact ⟨by kernel_rfl, of_decide_eq_true (by kernel_rfl)⟩)) hA1 (fun x hx => hlt x (List.mem_append.2 (Or.inl hx))), rfl, bel.frame _, fun h => by cases h⟩
theorem limbsBytes_holds : Rows.LimbsBytesSaid :=
  OpenClaim.holds_of_wide 6 Try.f6 rfl rfl rfl rfl rfl rfl rfl ⟨rfl, rfl, rfl, rfl, rfl⟩ rfl rfl rfl rfl rfl (by kernel_rfl) Try.func6 (by kernel_rfl)
    (of_decide_eq_true (by kernel_rfl)) (by unfold Func.isWrapper; first | (rw [if_pos (by decide +kernel)]; kernel_rfl) | (rw [if_neg (by decide +kernel)]; exact ⟨rfl, rfl⟩))
    (fun os started H enc _ => limbsBytes_lifted os started H enc)
#print axioms limbsBytes_holds
end Go.Proofs.Ytkeghgjokgpmbaa
