/- Proved here: the law PlaceLoads returns true for every list of segments, every payload and every byte, and leaves its arguments as they were; no condition. -/
import Derived.Test.YtikbkhhgbkpijaaRows
import Derived.Test.YtikbkhhgbkpijaaPl3t
import Derived.Test.YtikbkhhgbkpijaaPl4
import Derived.Test.YtikbkhhgbkpijaaOpen
import Derived.Test.YtikbkhhgbkpijaaClose
import Derived.ChangeMaps5
import Derived.SizedLaws
open Go Go.RowKit Go.ChangeShapes Go.WideShapes Go.ChangeAt
namespace Go.Proofs.Ytikbkhhgbkpijaa
open Go.Proofs.L
theorem placeLoads_calls (W : World) {H : Type} {enc : TypeId × Value → H} {base : Nat} {v0 v1 v2 : Value} {d0 d1 d2 : DataW H} {p0 p1 p2 : List MemPlace}
    (k0 : Value.okWide Try.prog W .any base 54 v0) (h0 : DataW.Trod enc Try.prog W 0 (fun _ => true) true 54 v0 d0 p0) (z0 : ∀ n ∈ d0.weights Try.prog 54, n ≤ reachBytes)
    (k1 : Value.okWide Try.prog W .any base 58 v1) (h1 : DataW.Trod enc Try.prog W 0 (fun _ => true) true 58 v1 d1 p1)
    (k2 : Value.okWide Try.prog W .any base 5 v2) (h2 : DataW.Trod enc Try.prog W 0 (fun _ => true) true 5 v2 d2 p2) :
    Calls Try.prog 6 #[v0, v1, v2] W fun e w' => e = .returned (.bool true) ∧ Below W.heap.size W w' := by
  obtain ⟨p, b, o, n, c, S, rfl, hS, hSn, hp, hlen⟩ := open_segs k0 h0 z0
  obtain ⟨cs, bias, rfl, hcs, hb⟩ := open_pay k1 h1
  obtain ⟨x, rfl, hx⟩ := op_u8 Try.underlying5 k2 h2
  exact (loads_walk hS hSn hp hlen hcs hb hx).mono fun e w' h => ⟨h.1, h.2.below (by simp) (Nat.le_refl _)⟩
theorem placeLoads_own : ownKnob Try.prog.godebug = none := by kernel_rfl
theorem placeLoads_laid : laidOutB Try.prog = true := by kernel_rfl
set_option maxRecDepth 100000 in
theorem placeLoads_lifted (os : Os) (started : os.Started) (H : Type) (enc : TypeId × Value → H) :
    ReturnsInHanded {} Try.checked os 6 .any (Rows.placeLoadsSpec.pre6 enc Try.prog Try.f6 Rows.placeLoadsRow.domain false) (Rows.placeLoadsSpec.post enc Try.prog Try.f6 false true false false) := by
  refine returnsInHanded_of_change_sized (C := Try.checked) placeLoads_own started (by kernel_rfl) Try.func6
    (ChangeSpec.witness6 (enc := enc) (C := Try.checked) false ⟨#[], #[.slice none 0 0, .agg #[.int .u8 0, .int .u8 0, .int .u8 0, .int .u8 0, .int .u8 0, .int .u8 0, .int .u8 0, .int .u8 0, .int .u8 0, .int .u8 0, .int .u8 0, .int .u8 0, .int .u8 0, .int .u8 0, .int .u8 0, .int .u8 0, .int .u8 0, .int .u8 0, .int .u8 0, .int .u8 0, .int .u8 0, .int .u8 0, .int .u8 0, .int .u8 0, .int .u8 0, .int .u8 0, .int .u8 0, .int .u8 0, .int .u8 0, .int .u8 0, .int .u8 0, .int .u8 0, .int .u32 0, .int .u32 0, .slice none 0 0, .int .i64 0], .int .u8 0], []⟩ 8 (by kernel_rfl) (by kernel_rfl) (by kernel_rfl) (by kernel_rfl)) ?_
  intro W base args ds gs before hval0 hW hcnd hsz0 _
  have hval : ∀ (j : Nat) t v, Try.f6.params[j]? = some t → args[j]? = some v → Value.okWide Try.prog W .any base t v := hval0
  have hW' := hW
  have hlt : ∀ x ∈ before, x.block < W.heap.size := fun x hx => hW.lt x hx
  obtain ⟨p, q, hA0, hV, rfl, hfz, hnd⟩ := hW
  have hA : DataW.TrodAll enc Try.prog W 0 (fun _ => true) true Try.f6.params.toList args.toList ds p := hA0
  rw [Try.params6] at hA hval
  have hA1 := hA
  obtain ⟨v0, vs0, d0, ds0, p0, q0, hargs, rfl, rfl, h0, r0⟩ := trodAll_cons hA
  obtain ⟨v1, vs1, d1, ds1, p1, q1, rfl, rfl, rfl, h1, r1⟩ := trodAll_cons r0
  obtain ⟨v2, vs2, d2, ds2, p2, q2, rfl, rfl, rfl, h2, r2⟩ := trodAll_cons r1
  obtain ⟨rfl, rfl, rfl⟩ := trodAll_nil r2
  obtain rfl : args = #[v0, v1, v2] := by cases args; simp_all
  obtain ⟨rfl, rfl⟩ := trodVars_none hV
  have hz0 : ∀ n ∈ d0.weights Try.prog 54, n ≤ reachBytes := fun n hn => by have h := List.all_eq_true.1 hsz0 n (DataW.weights_mem_each (j := 0) (t := 54) (d := d0) rfl rfl n hn); simpa using h
  have hc := placeLoads_calls W (hval 0 54 v0 rfl rfl) h0 hz0 (hval 1 58 v1 rfl rfl) h1 (hval 2 5 v2 rfl rfl) h2
  clear hA0 hval0
  refine hc.mono fun e W' ⟨he, bel⟩ => ?_
  subst he
  exact ⟨_, rfl, _, _, _, [], _, [], hW', trodAll_mk1 (shut_bool Try.underlying4 _), trodAll_below placeLoads_laid bel _ _ _ _ (by intro t ht; simp at ht; first | (rcases ht with rfl | rfl | rfl <;> exact ⟨by kernel_rfl, of_decide_eq_true (by kernel_rfl)⟩) | (rcases ht with rfl | rfl <;> exact ⟨by kernel_rfl, of_decide_eq_true (by kernel_rfl)⟩) | (rcases ht with rfl <;> exact ⟨by kernel_rfl, of_decide_eq_true (by kernel_rfl)⟩) | (subst ht; exact ⟨by kernel_rfl, of_decide_eq_true (by kernel_rfl)⟩)) hA1 (fun x hx => hlt x (List.mem_append.2 (Or.inl hx))), rfl, bel.frame _, fun h => by cases h⟩
theorem placeLoads_holds : Rows.PlaceLoadsSaid :=
  OpenClaim.holds_of_wide 6 Try.f6 rfl rfl rfl rfl rfl rfl rfl ⟨rfl, rfl, rfl, rfl, rfl⟩ rfl rfl rfl rfl rfl (by kernel_rfl) Try.func6 (by kernel_rfl)
    (of_decide_eq_true (by kernel_rfl)) (by unfold Func.isWrapper; first | (rw [if_pos (by decide +kernel)]; kernel_rfl) | (rw [if_neg (by decide +kernel)]; exact ⟨rfl, rfl⟩))
    (fun os started H enc _ => placeLoads_lifted os started H enc)
#print axioms placeLoads_holds
end Go.Proofs.Ytikbkhhgbkpijaa
