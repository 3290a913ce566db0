/- Proved here: lemmas and contracts (Lk17a) for the laws of this seat, for all values of the stated types; no further condition. -/
import Derived.Test.YtjbplncpcgfaoaaLk10
import Derived.Laws.BytesArg
open Go Go.RowKit Go.Lib Go.Maps
namespace Go.Proofs.L
attribute [local irreducible] wpT
/-! what a good link's numbers are: bounds; bytes as strings -/
/-- bytes as a string -/
def ConvTo (w : World) (v : Value) (xs : ByteArray) : Prop := ∀ w', Chg [] w w' → (convert 36 9 v).run Try.prog w' = .ok (.string xs) w'
theorem conv_own {w : World} {base n : Nat} {v : Value} {D : List Nat} (h : w.ownsRow base 5 1 v n (u8L D)) (hn : D.length = n) : ConvTo w v (strOfNums (D.map fun x : Nat => (x : Int))) := by
  intro w' hc
  obtain ⟨p, cap, rfl, hp⟩ := own_form h
  by_cases h0 : 0 < n
  · obtain ⟨g, rfl, hg⟩ := hp h0
    refine run_convert_bytes_arg (P := Try.prog) w' 36 5 Try.underlying36 Try.underlying5 g 0 n cap _ (by simp [hn]) (fun i hi => ?_) 9 Try.underlying9
    obtain ⟨x, hx⟩ : ∃ x, D[i]? = some x := ⟨_, List.getElem?_eq_getElem (by omega)⟩
    have h1 := cellsAt h hg i (.int .u8 (x : Int)) (by unfold u8L; rw [List.getElem?_map, hx]; rfl)
    rw [Nat.zero_add, keepc h1 hc (by simp), List.getD_eq_getElem?_getD, List.getElem?_map, hx]
    rfl
  · obtain rfl : n = 0 := by omega
    obtain rfl := List.eq_nil_of_length_eq_zero hn
    rcases h.2 with ⟨hv, -⟩ | ⟨g, c, cur, hv, -⟩
    · rw [hv]; exact run_convert_bytes_nil (P := Try.prog) (w := w') 36 5 Try.underlying36 Try.underlying5 0 0 9 Try.underlying9
    · rw [hv]
      exact run_convert_bytes_arg (P := Try.prog) w' 36 5 Try.underlying36 Try.underlying5 g 0 0 c [] rfl (fun i hi => by omega) 9 Try.underlying9
theorem code_len {w : World} {L : List Ob} (h : ∀ s ∈ L, ObOk w s) : ∀ i, (codeB (L.take i)).length = sumO L 0 i
  | 0 => by rw [sumO_zero]; rfl
  | i + 1 => by
    cases hs : L[i]? with
    | none =>
      have e : L.take (i + 1) = L.take i := by rw [List.take_add_one, hs]; simp
      rw [e, code_len h i]
      unfold sumO
      rw [e]
    | some s => rw [codeB_succ hs, List.length_append, code_len h i, sumO_succ hs, (h s (List.mem_of_getElem? hs)).Cn]; rfl
theorem data_len {w : World} {L : List Ob} (h : ∀ s ∈ L, ObOk w s) : ∀ i, (dataB (L.take i)).length = sumO L 1 i
  | 0 => by rw [sumO_zero]; rfl
  | i + 1 => by
    cases hs : L[i]? with
    | none =>
      have e : L.take (i + 1) = L.take i := by rw [List.take_add_one, hs]; simp
      rw [e, data_len h i]
      unfold sumO
      rw [e]
    | some s => rw [dataB_succ hs, List.length_append, data_len h i, sumO_succ hs, (h s (List.mem_of_getElem? hs)).Dn]; rfl
theorem err_bounds {L : List Ob} (h : errL L = 0) : L.length ≤ 16 ∧ 0 < L.length ∧ (∀ s ∈ L, rightB s = true) ∧ sumO L 0 L.length + sumO L 1 L.length + sumO L 2 L.length ≤ 16384 ∧ 0 < sumO L 0 L.length ∧ nodupB (defsL L) = true ∧ (∀ s ∈ L, ∀ r ∈ s.R, numP (defsL L) r.name ≠ 0) ∧ numP (defsL L) startB ≠ 0 ∧ (defsL L).length ≤ 63 ∧ (refsL L).length ≤ 64 := by
  unfold errL at h
  cases h1 : e1 L <;> rw [h1] at h <;> simp only [if_true, if_false, Bool.false_eq_true] at h
  case true => cases h
  cases h2 : e2 L <;> rw [h2] at h <;> simp only [if_true, if_false, Bool.false_eq_true] at h
  case true => cases h
  cases h3 : e3 L <;> rw [h3] at h <;> simp only [if_true, if_false, Bool.false_eq_true] at h
  case true => cases h
  cases h4 : e4 L <;> rw [h4] at h <;> simp only [if_true, if_false, Bool.false_eq_true] at h
  case true => cases h
  cases h5 : e5 L <;> rw [h5] at h <;> simp only [if_true, if_false, Bool.false_eq_true] at h
  case true => cases h
  cases h6 : e6 L <;> rw [h6] at h <;> simp only [if_true, if_false, Bool.false_eq_true] at h
  case true => cases h
  cases h7 : e7 L <;> rw [h7] at h <;> simp only [if_true, if_false, Bool.false_eq_true] at h
  case true => cases h
  unfold e1 at h1; unfold e2 at h2; unfold e3 at h3; unfold e4 at h4; unfold e5 at h5; unfold e6 at h6; unfold e7 at h7
  rw [decide_eq_false_iff_not] at h1 h3 h6 h7
  rw [Bool.not_eq_false', List.all_eq_true] at h2 h5
  rw [Bool.not_eq_false'] at h4
  refine ⟨by omega, by omega, h2, by omega, by omega, h4, fun s hs r hr => ?_, h6, by omega, by omega⟩
  have := List.all_eq_true.1 (h5 s hs) r hr
  exact of_decide_eq_true this
theorem a44 : aggT Try.prog 44 4 := aggT_of (by kernel_rfl)
theorem symC_at {P : List (ByteArray × Nat)} {k : Nat} (h : k < P.length + 1) : ∃ y : Nat, (symC P)[k]? = some (.int .u32 (y : Int)) := by
  unfold symC
  obtain ⟨x, hx⟩ : ∃ x, (0 :: P.map (·.2))[k]? = some x := ⟨_, List.getElem?_eq_getElem (by simpa using h)⟩
  exact ⟨x, by rw [List.getElem?_map, hx]; rfl⟩
theorem defs_lt {L : List Ob} (h : errL L = 0) : ∀ e ∈ defsL L, e.2 < 2000000 := by
  obtain ⟨h16, -, hr, hsum, -⟩ := err_bounds h
  have hz : ∀ s ∈ L, s.nc ≤ 16384 ∧ s.nd ≤ 16384 ∧ s.z ≤ 16384 := fun s hs => by
    have h := hr s hs
    unfold rightB at h
    rw [Bool.and_eq_true, Bool.and_eq_true] at h
    have h2 := h.1.1
    unfold baseB at h2
    rw [decide_eq_true_eq] at h2
    exact ⟨h2.1, h2.2.1, h2.2.2.1⟩
  have hm : ∀ (k : Int) i, i ≤ 16 → sumO L k i ≤ 262144 := fun k i hi => Nat.le_trans (sumO_le k hz i) (by omega)
  intro e he
  unfold defsL defsP at he
  rw [List.mem_flatten] at he
  obtain ⟨l, hl, he⟩ := he
  rw [List.mem_map] at hl
  obtain ⟨⟨s, i⟩, hp, rfl⟩ := hl
  rw [List.mem_zipIdx_iff_getElem?, List.take_of_length_le (Nat.le_refl _)] at hp
  have hi : i < L.length := (List.getElem?_eq_some_iff.1 hp).1
  have hs := List.mem_of_getElem? hp
  unfold defsI at he
  rw [List.mem_map] at he
  obtain ⟨d, hd, rfl⟩ := he
  have hd2 := List.mem_of_mem_take hd
  have hq := hr s hs
  unfold rightB at hq
  rw [Bool.and_eq_true, Bool.and_eq_true] at hq
  have h3 := List.all_eq_true.1 hq.1.2 d hd2
  unfold dfB at h3
  rw [decide_eq_true_eq] at h3
  have h4 : sizeO s d.sec ≤ 16384 := by
    obtain ⟨a, b, c⟩ := hz s hs
    unfold sizeO
    split; exact a; split; exact b; split; exact c; omega
  have h5 := bsF_le hm h16 d.sec.toNat
  have h6 := hm d.sec i (by omega)
  have h7 := h3.2.2.2.2
  show bsF L d.sec.toNat + sumO L d.sec i + d.at_ < 2000000
  omega
theorem symC_lt {L : List Ob} (h : errL L = 0) {k y : Nat} (hy : (symC (defsL L))[k]? = some (.int .u32 (y : Int))) : y < 2000000 := by
  unfold symC at hy
  rw [List.getElem?_map] at hy
  cases e : (0 :: (defsL L).map (·.2))[k]? with
  | none => rw [e] at hy; cases hy
  | some x =>
    rw [e] at hy
    have h2 := Option.some.inj hy
    injection h2 with h3 h4
    have h5 : x = y := by omega
    subst h5
    have h6 := List.mem_of_getElem? e
    rcases List.mem_cons.1 h6 with rfl | h7
    · decide
    · rw [List.mem_map] at h7
      obtain ⟨q, hq, rfl⟩ := h7
      exact defs_lt h q hq
theorem refs_lt {w : World} {L : List Ob} (h : errL L = 0) (hA : ∀ s ∈ L, ObOk w s) : ∀ r ∈ refsL L, r.at_ < 2000000 ∧ r.add < 4294967296 := by
  obtain ⟨h16, -, hr, hsum, -⟩ := err_bounds h
  have hz : ∀ s ∈ L, s.nc ≤ 16384 ∧ s.nd ≤ 16384 ∧ s.z ≤ 16384 := fun s hs => by
    have h := hr s hs
    unfold rightB at h
    rw [Bool.and_eq_true, Bool.and_eq_true] at h
    have h2 := h.1.1
    unfold baseB at h2
    rw [decide_eq_true_eq] at h2
    exact ⟨h2.1, h2.2.1, h2.2.2.1⟩
  have hm : ∀ (k : Int) i, i ≤ 16 → sumO L k i ≤ 262144 := fun k i hi => Nat.le_trans (sumO_le k hz i) (by omega)
  intro e he
  unfold refsL refsP at he
  rw [List.mem_flatten] at he
  obtain ⟨l, hl, he⟩ := he
  rw [List.mem_map] at hl
  obtain ⟨⟨s, i⟩, hp, rfl⟩ := hl
  rw [List.mem_zipIdx_iff_getElem?, List.take_of_length_le (Nat.le_refl _)] at hp
  have hi : i < L.length := (List.getElem?_eq_some_iff.1 hp).1
  have hs := List.mem_of_getElem? hp
  unfold refsI at he
  rw [List.mem_map] at he
  obtain ⟨d, hd, rfl⟩ := he
  have hd2 := List.mem_of_mem_take hd
  have hq := hr s hs
  unfold rightB at hq
  rw [Bool.and_eq_true, Bool.and_eq_true] at hq
  have h3 := List.all_eq_true.1 hq.2 d hd2
  unfold rfB at h3
  rw [decide_eq_true_eq] at h3
  have h4 : sizeO s d.sec ≤ 16384 := by
    obtain ⟨a, b, c⟩ := hz s hs
    unfold sizeO
    split; exact a; split; exact b; split; exact c; omega
  have h5 := bsF_le hm h16 d.sec.toNat
  have h6 := hm d.sec i (by omega)
  have h7 := h3.2.2.2.2.2
  refine ⟨?_, ?_⟩
  · show bsF L d.sec.toNat + sumO L d.sec i + d.at_ < 2000000
    omega
  · obtain ⟨j, hj⟩ := List.mem_iff_getElem?.1 hd2
    exact ((hA s hs).Ra j d hj).2.2
theorem w64s (n : Nat) (h : n < 9000000000000000000) : wrap64 (n : Int) = (n : Int) := IntWalk.wrap64_in _ ⟨by omega, by omega⟩
theorem i64s (n : Nat) (h : n < 9000000000000000000) : IntKind.i64.wrap (n : Int) = (n : Int) := by
  simp [IntKind.wrap, IntKind.bits, IntKind.signed]; omega
end Go.Proofs.L
