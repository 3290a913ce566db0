/- Proved here: lemmas and contracts (R16) for the laws of this seat, for all values of the stated types; no further condition. -/
import Derived.Test.YtjiiojbenbldlaaR15
open Go Go.RowKit Go.Lib
namespace Go.Proofs.L
attribute [local irreducible] wpT
def Byt (q : Nat × (Nat → Nat)) : Prop := ∀ i, q.2 i < 256
theorem byt_ite {c : Prop} [Decidable c] {a b : Nat × (Nat → Nat)} (ha : Byt a) (hb : Byt b) : Byt (if c then a else b) := by split <;> assumption
theorem finN_lt (f : Nat → Nat) (hf : ∀ i, f i < 256) (p x : Nat) : Byt (finN f p x) := fun i => sdN_lt f hf p x i
theorem tailN_lt (bias : Nat) (Rs : List Rl) (Ys : List Nat) (f : Nat → Nat) (hf : ∀ i, f i < 256) (p : Nat) (ty : Int) (val w add : Nat) : Byt (tailN bias Rs Ys f p ty val w add) :=
  have F := finN_lt f hf p
  have B : ∀ k, Byt (k, f) := fun _ i => hf i
  byt_ite (F _) (byt_ite (F _) (byt_ite (byt_ite (B _) (F _)) (byt_ite (byt_ite (B _) (F _)) (byt_ite (finN_lt _ (sdN_lt f hf _ _) _ _) (byt_ite (F _) (byt_ite (F _) (byt_ite (F _) (byt_ite (F _) (byt_ite (B _) (byt_ite (F _) (F _)))))))))))
theorem oneN_lt (bias : Nat) (Rs : List Rl) (Ys : List Nat) (Ss : List Sp) (f : Nat → Nat) (hf : ∀ i, f i < 256) (r : Rl) : Byt (oneN bias Rs Ys Ss f r) :=
  have B : ∀ k, Byt (k, f) := fun _ i => hf i
  byt_ite (B _) (byt_ite (B _) (byt_ite (B _) (tailN_lt _ _ _ f hf _ _ _ _ _)))
def applyN (bias : Nat) (Rs : List Rl) (Ys : List Nat) (Ss : List Sp) : List Rl → (Nat → Nat) → Nat × (Nat → Nat)
  | [], f => (0, f)
  | r :: L, f => if (oneN bias Rs Ys Ss f r).1 ≠ 0 then oneN bias Rs Ys Ss f r else applyN bias Rs Ys Ss L (oneN bias Rs Ys Ss f r).2
theorem apply_nil (a : Value) (b : Nat) (s : Value) (e sg rl sy : Value) (w : World) : Calls Try.prog 11 #[.pointer none, .agg #[e, sg, rl, sy], .int .u32 (b : Int), s] w fun e w' => e = .returned (.int .i64 1) ∧ Chg [] w w' := by
  go_enter Try.func11, Try.ntmps11
  go_wp2
  go_ret
  exact ⟨rfl, (Chg.refl _ _).alloc _⟩
end Go.Proofs.L
