/- Proved here: the law LinkCalls returns true for every code, data and bias, where the arguments are of bulk at most 1048576, and leaves its arguments as they were. -/
import Derived.Test.YtjbplncpcgfaoaaRows
import Derived.Test.YtjbplncpcgfaoaaLc4
import Derived.Test.YtjbplncpcgfaoaaLc6
import Derived.Test.YtjbplncpcgfaoaaOpen
import Derived.Test.YtjbplncpcgfaoaaClose
import Derived.ChangeMaps5
import Derived.SizedLaws
import Derived.JoinedCond
open Go Go.RowKit Go.ChangeShapes Go.WideShapes Go.ChangeAt
namespace Go.Proofs.Ytjbplncpcgfaoaa
open Go.Proofs.L
set_option maxRecDepth 100000 in
theorem linkCalls_calls (W : World) {H : Type} {enc : TypeId × Value → H} {base : Nat} {v0 v1 v2 : Value} {d0 d1 d2 : DataW H} {p0 p1 p2 : List MemPlace}
    (k0 : Value.okWide Try.prog W .any base 59 v0) (h0 : DataW.Trod enc Try.prog W 0 (fun _ => true) true 59 v0 d0 p0) (k1 : Value.okWide Try.prog W .any base 59 v1) (h1 : DataW.Trod enc Try.prog W 0 (fun _ => true) true 59 v1 d1 p1)
    (k2 : Value.okWide Try.prog W .any base 25 v2) (h2 : DataW.Trod enc Try.prog W 0 (fun _ => true) true 25 v2 d2 p2) (z0 : Rows.uptoBulk d0 ≤ 1048576) (z1 : Rows.uptoBulk d1 ≤ 1048576) :
    Calls Try.prog 6 #[v0, v1, v2] W fun e w' => e = .returned (.bool true) ∧ Below W.heap.size W w' := by
  obtain ⟨p, b, o, n, c, T, rfl, hS, hn, hp, hq, hl⟩ := open_bys k0 h0 z0
  obtain ⟨p', b', o', n', c', T', rfl, hS', hn', hp', hq', hl'⟩ := open_bys k1 h1 z1
  obtain ⟨x, rfl, hx⟩ := op_u32 Try.underlying25 k2 h2
  exact (calls_walk hS hn hp hq hS' hn' hp' hq' hl hl' hx).mono fun e w' h => ⟨h.1, h.2.below (by simp) (Nat.le_refl _)⟩
theorem linkCalls_own : ownKnob Try.prog.godebug = none := by kernel_rfl
theorem linkCalls_laid : laidOutB Try.prog = true := by kernel_rfl
set_option maxRecDepth 100000 in
theorem linkCalls_lifted (os : Os) (started : os.Started) (H : Type) (enc : TypeId × Value → H) (F : Stop.Interp) :
    ReturnsInHanded {} Try.checked os 6 .any ((Rows.OpenSpec.upto Rows.linkCallsSpec).pre6 enc Try.prog Try.f6 Rows.linkCallsUptoRow.domain false) (((Rows.OpenSpec.upto Rows.linkCallsSpec).at F).post enc Try.prog Try.f6 false true false false) := by
  refine returnsInHanded_of_cond (C := Try.checked) (s := Rows.OpenSpec.upto Rows.linkCallsSpec) (k := Rows.uptoSmall) rfl linkCalls_own started (by kernel_rfl) Try.func6
    (OpenSpec.witness (enc := enc) (C := Try.checked) (s := Rows.OpenSpec.upto Rows.linkCallsSpec) (k := Rows.uptoSmall) rfl false ⟨#[], #[.slice none 0 0, .slice none 0 0, .int .u32 0], []⟩ 8 (by kernel_rfl) (by kernel_rfl) (by kernel_rfl)
      (x := ([.nil, .nil, .lit (.int .u32 0)], [], [])) (by kernel_rfl) rfl (by kernel_rfl)) ?_
  intro W base args ds gs before hval0 hW hcnd hk _
  have hval : ∀ (j : Nat) t v, Try.f6.params[j]? = some t → args[j]? = some v → Value.okWide Try.prog W .any base t v := hval0
  have hW' := hW
  have hlt : ∀ x ∈ before, x.block < W.heap.size := fun x hx => hW.lt x hx
  obtain ⟨p, q, hA0, hV, rfl, hfz, hnd⟩ := hW
  have hA : DataW.TrodAll enc Try.prog W 0 (fun _ => true) true Try.f6.params.toList args.toList ds p := hA0
  rw [Try.params6] at hA hval
  have hA1 := hA
  obtain ⟨v0, vs0, d0, ds0, p0, q0, hargs, rfl, rfl, h0, r0⟩ := trodAll_cons hA
  obtain ⟨v1, vs1, d1, ds1, p1, q1, rfl, rfl, rfl, h1, r1⟩ := trodAll_cons r0
  obtain ⟨v2, vs2, d2, ds2, p2, q2, rfl, rfl, rfl, h2, r2⟩ := trodAll_cons r1
  obtain ⟨rfl, rfl, rfl⟩ := trodAll_nil r2
  obtain rfl : args = #[v0, v1, v2] := by cases args; simp_all
  obtain ⟨rfl, rfl⟩ := trodVars_none hV
  have hb : Rows.uptoBulkAll ([d0, d1, d2] ++ []) ≤ 1048576 := of_decide_eq_true hk
  simp only [List.append_nil, Rows.uptoBulkAll] at hb
  have hc := linkCalls_calls W (hval 0 59 v0 rfl rfl) h0 (hval 1 59 v1 rfl rfl) h1 (hval 2 25 v2 rfl rfl) h2 (by omega) (by omega)
  clear hA0 hval0
  refine hc.mono fun e W' ⟨he, bel⟩ => ?_
  subst he
  exact ⟨_, rfl, _, _, _, [], _, [], hW', trodAll_mk1 (shut_bool Try.underlying4 _), trodAll_below linkCalls_laid bel _ _ _ _ (by intro t ht; simp at ht; first | (rcases ht with rfl | rfl | rfl <;> exact ⟨by kernel_rfl, of_decide_eq_true (by kernel_rfl)⟩) | (rcases ht with rfl | rfl <;> exact ⟨by kernel_rfl, of_decide_eq_true (by kernel_rfl)⟩) | (rcases ht with rfl <;> exact ⟨by kernel_rfl, of_decide_eq_true (by kernel_rfl)⟩) | (subst ht; exact ⟨by kernel_rfl, of_decide_eq_true (by kernel_rfl)⟩)) hA1 (fun x hx => hlt x (List.mem_append.2 (Or.inl hx))), rfl, bel.frame _, fun h => by cases h⟩
theorem linkCalls_holds : Rows.LinkCallsUptoSaid :=
  OpenClaim.holds_of_cond 6 Try.f6 rfl rfl rfl rfl rfl rfl rfl ⟨rfl, rfl, rfl, rfl, rfl⟩ rfl rfl rfl rfl rfl (by kernel_rfl) Try.func6 (by kernel_rfl)
    (of_decide_eq_true (by kernel_rfl)) (by unfold Func.isWrapper; first | (rw [if_pos (by decide +kernel)]; kernel_rfl) | (rw [if_neg (by decide +kernel)]; exact ⟨rfl, rfl⟩))
    (fun os started H enc _ F => linkCalls_lifted os started H enc F)
#print axioms linkCalls_holds
end Go.Proofs.Ytjbplncpcgfaoaa
