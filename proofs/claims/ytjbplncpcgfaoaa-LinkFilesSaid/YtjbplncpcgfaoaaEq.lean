/- Proved here: lemmas and contracts (Eq) for the laws of this seat, for all values of the stated types; no further condition. -/
import Derived.Test.YtjbplncpcgfaoaaRow
namespace Go
section
variable {P : Program}
theorem part_int (w : World) (e : TypeId) (k : IntKind) (l : List Int) (i : Nat) (he : P.underlying e = some (.int k)) (hi : i < l.length) :
    (part e (cellsK k l) i).run P w = .ok (.int k (at' l i)) w := by
  have hagg : (isAgg e).run P w = .ok false w := by
    unfold isAgg; rw [Sem.run_bind, run_underlying he w]; rfl
  simp [part, Sem.run_bind, hagg, cellsK_get _ _ _ hi]
theorem eqLoop (w : World) (e : TypeId) (k : IntKind) (l l' : List Int) (n : Nat) (he : P.underlying e = some (.int k)) (eq : TypeId → Value → Value → Sem Bool)
    (heq : ∀ a b, (eq e (.int k a) (.int k b)).run P w = .ok (a == b) w) (hl : l.length = n) (hl' : l'.length = n) :
    ∀ (m s : Nat), s + m = n →
    Sem.run P (forIn (List.range' s m) ((none : Option Bool), ()) fun i __s => do
            let a ← part e (cellsK k l) (i * 1)
            let b ← part e (cellsK k l') (i * 1)
            let r ← eq e a b
            if (!r) = true then pure (ForInStep.done (some false, ())) else do
              pure PUnit.unit
              pure (ForInStep.yield (none, ()))) w = .ok (if l.drop s = l'.drop s then (none, ()) else (some false, ())) w := by
  intro m
  induction m with
  | zero =>
    intro s hs
    rw [List.drop_eq_nil_of_le (by omega), List.drop_eq_nil_of_le (by omega)]
    simp
  | succ m ih =>
    intro s hs
    have h1 := part_int (P := P) w e k l s he (by omega)
    have h2 := part_int (P := P) w e k l' s he (by omega)
    have e1 : l.drop s = at' l s :: l.drop (s + 1) := by
      rw [List.drop_eq_getElem_cons (by omega)]; simp [at', show s < l.length by omega]
    have e2 : l'.drop s = at' l' s :: l'.drop (s + 1) := by
      rw [List.drop_eq_getElem_cons (by omega)]; simp [at', show s < l'.length by omega]
    have ih := ih (s + 1) (by omega)
    rw [List.range'_succ, List.forIn_cons, e1, e2]
    simp only [Nat.mul_one] at ih ⊢
    simp only [Sem.run_bind, h1, h2, Result.andThen_ok, heq]
    by_cases hx : at' l s = at' l' s
    · rw [hx]
      simpa using ih
    · have : (at' l s == at' l' s) = false := by simpa using hx
      rw [this]
      simp [hx]
theorem run_equalIn_ints (w : World) (d : Nat) (t e : TypeId) (n : Nat) (k : IntKind) (l l' : List Int) (ht : P.underlying t = some (.array n e)) (he : P.underlying e = some (.int k)) (hs : (P.info? e).map (·.size) = some 1)
    (hl : l.length = n) (hl' : l'.length = n) :
    (Op.equalIn (d + 2) t (.agg (cellsK k l)) (.agg (cellsK k l'))).run P w = .ok (decide (l = l')) w := by
  have hsz : (sizeOf e).run P w = .ok 1 w := by
    unfold sizeOf typeInfo
    cases hq : P.info? e with
    | none => simp [hq] at hs
    | some i => have : i.size = 1 := by simpa [hq] using hs
                simp [hq, this]
  have heq : ∀ a b, (Op.equalIn (d + 1) e (.int k a) (.int k b)).run P w = .ok (a == b) w := fun a b => run_equalIn_int w d e k k a b he
  obtain ⟨m, hm⟩ : ∃ m, m = d + 1 := ⟨_, rfl⟩
  rw [← hm] at heq
  rw [show d + 2 = m + 1 from by omega]
  clear hm
  have key := eqLoop (P := P) w e k l l' n he (Op.equalIn m) heq hl hl' n 0 (by omega)
  simp only [Op.equalIn, Sem.run_bind, run_underlying ht, Result.andThen_ok, hsz]
  simp only [Std.Legacy.Range.forIn_eq_forIn_range', Std.Legacy.Range.size]
  rw [show (n - 0 + 1 - 1) / 1 = n by omega]
  erw [key]
  by_cases h : l = l'
  · subst h; simp
  · simp [h]
end
end Go
