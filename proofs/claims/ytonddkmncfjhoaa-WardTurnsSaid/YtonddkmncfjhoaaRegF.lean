/- Proved here: lemmas and contracts (RegF) for the laws of this seat, for all values of the stated types; no further condition. -/
import Derived.Test.YtonddkmncfjhoaaRegT
namespace Go
open Go.RowKit
section
variable {P : Program} {ops : Array Oper} {Q : Exit → Act → World → Prop}
/-! a drawn region in which two effects stand unordered: shown for both orders -/
def chkF (l : List Oper) (pre : List (Nat × Nat)) (x : Nat × Nat) (r1 : List (Nat × Nat)) (y : Nat × Nat) (r2 : List (Nat × Nat)) : Bool :=
  chkX l x.1 (pre ++ x :: r1) && chkX l y.1 (pre ++ y :: r2) && pre.all (fun p => decide (p.2 < 2)) && decide (2 ≤ x.2) && decide (2 ≤ y.2) &&
  (List.range l.length).all fun j => (pre.map (·.1)).contains j || j == x.1 || j == y.1 || ancB (masks l) x.1 j || ancB (masks l) y.1 j
theorem chkPairs_left {M : List Nat} {x : Nat} {r : List (Nat × Nat)} : ∀ {pre : List (Nat × Nat)}, chkPairs ops M x (pre ++ r) = true → chkPairs ops M x pre = true
  | [], _ => rfl
  | (i, c) :: pre, h => by
    rw [List.cons_append] at h
    unfold chkPairs at h ⊢
    cases ho : ops[i]? with
    | none => simp [ho] at h
    | some o =>
      simp only [ho, Bool.and_eq_true, List.all_append] at h ⊢
      exact ⟨⟨h.1.1, h.1.2.1⟩, chkPairs_left h.2⟩
def InvF (P : Program) (l : List Oper) (Q Q0 : Exit → Act → World → Prop) (S : World → Prop) (pre : List (Nat × Nat)) (x : Nat × Nat) (r1 : List (Nat × Nat)) (y : Nat × Nat) (r2 : List (Nat × Nat)) (L : Array Bool) (a : Act) (w : World) : Prop :=
  ((∃ b, InvT P l.toArray Q0 S pre pre [] L a b w ∧ ∀ j, L.getD j false = true → j ∈ pre.map (·.1)) ∨
      (L.getD x.1 false = true ∧ ∃ p r b, InvT P l.toArray Q S (pre ++ x :: r1) p r L a b w ∧ (r = [] ∨ ∃ p r'', r = p :: r'' ∧ 2 ≤ p.2)) ∨
      (L.getD y.1 false = true ∧ ∃ p r b, InvT P l.toArray Q S (pre ++ y :: r2) p r L a b w ∧ (r = [] ∨ ∃ p r'', r = p :: r'' ∧ 2 ≤ p.2))) ∧
    (∀ j o, l[j]? = some o → L.getD j false = true → ∀ e ∈ o.after, Region.binds .any e = true → L.getD e.on false = true)
theorem wp_region_F {l : List Oper} {id : Nat} {a : Act} {w : World} (S : World → Prop) (pre : List (Nat × Nat)) (x : Nat × Nat) (r1 : List (Nat × Nat)) (y : Nat × Nat) (r2 : List (Nat × Nat)) (hm : P.follows .mixedOrders = true) (hc : chkF l pre x r1 y r2 = true) (hQ : ∀ c a a' w, Q (.panic c) a w → Q (.panic c) a' w)
    (hS : S w.drew) (h : wpT P l.toArray (fun _ a w => wpT P l.toArray Q S (x :: r1) a w ∧ wpT P l.toArray Q S (y :: r2) a w) S pre a w.drew) : (Code.region id l.toArray true).wp P Q a w := by
  unfold chkF chkX at hc
  simp only [Bool.and_eq_true, Bool.or_eq_true, List.all_eq_true, List.mem_range, List.contains_iff_mem, decide_eq_true_eq, beq_iff_eq] at hc
  obtain ⟨⟨⟨⟨⟨⟨⟨⟨⟨⟨⟨hb, hsel⟩, hck1⟩, hle1⟩, hcov1⟩, -⟩, hmask⟩, ⟨⟨⟨⟨⟨-, -⟩, hck2⟩, hle2⟩, hcov2⟩, -⟩, -⟩, hpre⟩, hx2⟩, hy2⟩, hcov⟩ := hc
  have hns := Region.noSelect_spec hsel
  obtain ⟨M, hMd⟩ : ∃ M, M = masks l := ⟨_, rfl⟩
  rw [← hMd] at hck1 hck2 hmask hcov
  have hM : ∀ i o, l[i]? = some o → M.getD i 0 = maskOf M o := fun i o ho => by
    have hi : i < l.length := by
      rcases Nat.lt_or_ge i l.length with h | h
      · exact h
      · simp [List.getElem?_eq_none h] at ho
    have := hmask i hi
    rw [ho] at this
    simpa using this
  have hck0 := chkPairs_left hck1
  obtain ⟨Q0, hQ0⟩ : ∃ Q0 : Exit → Act → World → Prop, Q0 = fun _ a w => wpT P l.toArray Q S (x :: r1) a w ∧ wpT P l.toArray Q S (y :: r2) a w := ⟨_, rfl⟩
  rw [← hQ0] at h
  refine wp_region_inv hm hb (InvF P l Q Q0 S pre x r1 y r2) ?_ ?_ ?_
  · have hz : ∀ j, (Array.replicate l.toArray.size false).getD j false = false := fun j => by
      by_cases hj : j < l.length <;> simp [hj]
    refine ⟨.inl ?_, fun j o ho hj => by rw [hz] at hj; cases hj⟩
    obtain ⟨p', r', b', hI, hr⟩ := InvT.adv hns hck0 pre [] _ a a w.drew ⟨rfl, h, fun p _ => hz _, (fun p hp => by cases hp), rfl, rfl, fun _ _ => rfl, fun _ => hS⟩
    have hs := hI.split
    have hr' : r' = [] := by
      rcases hr with hr | ⟨p, r'', rfl, h2⟩
      · exact hr
      · have := hpre p (by rw [hs]; simp)
        omega
    subst hr'
    rw [List.append_nil] at hs
    subst hs
    exact ⟨b', hI, fun j hj => by rw [hz] at hj; cases hj⟩
  · rintro L i o a w ho hL hi hpr ⟨hI, hcl⟩
    have ho' : l[i]? = some o := by simpa using ho
    have hilt : i < l.length := by
      rcases Nat.lt_or_ge i l.length with h | h
      · exact h
      · simp [List.getElem?_eq_none h] at ho'
    have hL' : L.size = l.length := by rw [hL]; simp
    have hi' : L.getD i false = false := by
      have : i < L.size := by rw [hL']; exact hilt
      simp [this] at hi ⊢; exact hi
    have hset : (L.setIfInBounds i true).getD i false = true := by
      have : i < L.size := by rw [hL']; exact hilt
      simp [this]
    have hcl' : ∀ j o', l[j]? = some o' → (L.setIfInBounds i true).getD j false = true → ∀ e ∈ o'.after, Region.binds .any e = true → (L.setIfInBounds i true).getD e.on false = true := by
      intro j o' hj hLj e he hbd
      by_cases hji : i = j
      · subst hji
        rw [ho'] at hj; cases hj
        exact getD_set_true (hpr e he hbd)
      · rw [getD_set_ne false hji] at hLj
        exact getD_set_true (hcl j o' hj hLj e he hbd)
    have hanc : ∀ y, ancB M y i = true → L.getD y false = true := anc_listed hb hM hcl i o ho' hpr
    have hancOf : ∀ j, L.getD j false = true → ∀ y, ancB M y j = true → L.getD y false = true := fun j hj x hx => by
      have hjl : j < l.length := by
        rcases Nat.lt_or_ge j l.length with h | h
        · exact h
        · have : ¬ j < L.size := by rw [hL']; simpa using h
          simp [this] at hj
      have hoj : l[j]? = some l[j] := by simp
      exact anc_listed hb hM hcl j l[j] hoj (hcl j _ hoj hj) x hx
    have hB : ∀ (z : Nat × Nat) (rz : List (Nat × Nat)) (G : Array Bool → Act → World → Prop), chkPairs l.toArray M z.1 (pre ++ z :: rz) = true → (∀ p ∈ pre ++ z :: rz, p.2 ≤ 3) → (∀ j, j < l.length → j ∈ (pre ++ z :: rz).map (·.1)) → L.getD z.1 false = true →
        (∃ p r b, InvT P l.toArray Q S (pre ++ z :: rz) p r L a b w ∧ (r = [] ∨ ∃ p r'', r = p :: r'' ∧ 2 ≤ p.2)) →
        (∀ a' w', (∃ p r b, InvT P l.toArray Q S (pre ++ z :: rz) p r (L.setIfInBounds i true) a' b w' ∧ (r = [] ∨ ∃ p r'', r = p :: r'' ∧ 2 ≤ p.2)) → G (L.setIfInBounds i true) a' w') → wpOp P l.toArray Q i (G (L.setIfInBounds i true)) a w := by
      rintro z rz G hck hle hcv hz ⟨p0, r, b, hI, hr⟩ hG
      have hW : OnWay l M z.1 (pre ++ z :: rz) L i o := ⟨hns, hck, hle, hL', ho, hi', hanc, hancOf⟩
      obtain ⟨c, hic⟩ : ∃ c, (i, c) ∈ pre ++ z :: rz := by
        obtain ⟨p, hp, hpe⟩ := List.mem_map.1 (hcv i hilt)
        exact ⟨p.2, by rw [← hpe]; exact hp⟩
      rw [hI.split] at hic
      rcases List.mem_append.1 hic with hic | hic
      · exact stepQuiet hW hI hr hic fun v hv => hG _ _ ⟨_, _, _, hv, hr⟩
      · rcases hr with rfl | ⟨p, r', rfl, hp2⟩
        · cases hic
        have hpi : p.1 = i := by
          rcases List.mem_cons.1 hic with rfl | hic
          · rfl
          · exfalso
            have hck' := hck
            rw [hI.split] at hck'
            obtain ⟨o3, ho3, -, hlate, -⟩ := chkPairs_spec hck'
            obtain ⟨oq', hoq', hpr⟩ := hlate _ hic
            have htd := hI.todo p (by simp)
            have := hanc p.1 ((pairT_spec hpr).chain hp2 (by
              rintro e
              rw [e, hz] at htd; cases htd))
            rw [htd] at this; cases this
        obtain ⟨p1, p2⟩ := p
        dsimp only at hpi hp2
        subst hpi
        exact stepNext hW hI hp2 hQ fun a' w' h => hG _ _ h
    rcases hI with ⟨b, hI, hd⟩ | ⟨hz, hI⟩ | ⟨hz, hI⟩
    · -- nobody of the two has run
      have hfirst : ∀ (z : Nat × Nat) (rz : List (Nat × Nat)) (G : Array Bool → Act → World → Prop), chkPairs l.toArray M z.1 (pre ++ z :: rz) = true → (∀ p ∈ pre ++ z :: rz, p.2 ≤ 3) → 2 ≤ z.2 → i = z.1 → wpT P l.toArray Q S (z :: rz) b w →
          (∀ a' w', (∃ p r b, InvT P l.toArray Q S (pre ++ z :: rz) p r (L.setIfInBounds i true) a' b w' ∧ (r = [] ∨ ∃ p r'', r = p :: r'' ∧ 2 ≤ p.2)) → G (L.setIfInBounds i true) a' w') → wpOp P l.toArray Q i (G (L.setIfInBounds i true)) a w := by
        rintro ⟨z1, z2⟩ rz G hck hle h2 hz hwp hG
        dsimp only at hck h2 hz
        subst hz
        have hW : OnWay l M i (pre ++ (i, z2) :: rz) L i o := ⟨hns, hck, hle, hL', ho, hi', hanc, hancOf⟩
        refine stepNext hW (⟨rfl, hwp, fun p hp => ?_, hI.pend, hI.size, hI.defers, hI.same, hI.held⟩ : InvT P l.toArray Q S (pre ++ (i, z2) :: rz) pre ((i, z2) :: rz) L a b w) h2 hQ fun a' w' h => hG _ _ h
        rcases hb1 : L.getD p.1 false with _ | _
        · rfl
        · exfalso
          obtain ⟨q, hq, hqe⟩ := List.mem_map.1 (hd p.1 hb1)
          obtain ⟨u, v, huv⟩ := List.append_of_mem hp
          have hck' := hck
          rw [huv, ← List.append_assoc] at hck'
          obtain ⟨o3, ho3, -, -, hearly⟩ := chkPairs_spec hck'
          obtain ⟨oq', hoq', hpr⟩ := hearly q (by simp [hq])
          exact (pairT_spec hpr).ne hqe
      have hwp := hI.wp
      unfold wpT at hwp
      rw [hQ0] at hwp
      rcases hcov i hilt with (((hip | hix) | hiy) | hax) | hay
      · obtain ⟨p, hp, hpe⟩ := List.mem_map.1 hip
        have hW : OnWay l M x.1 pre L i o := ⟨hns, hck0, fun p hp => hle1 p (by simp [hp]), hL', ho, hi', hanc, hancOf⟩
        exact stepQuiet (c := p.2) (G := InvF P l Q Q0 S pre x r1 y r2) hW hI (.inl rfl) (by rw [← hpe]; exact hp) fun v hv => ⟨.inl ⟨b, hv, fun j hj => by
          by_cases hji : i = j
          · rw [← hji, ← hpe]; exact List.mem_map.2 ⟨p, hp, rfl⟩
          · rw [getD_set_ne false hji] at hj; exact hd j hj⟩, hcl'⟩
      · exact hfirst x r1 (InvF P l Q Q0 S pre x r1 y r2) hck1 hle1 hx2 hix hwp.1 fun a' w' h => ⟨.inr (.inl ⟨by rw [← hix]; exact hset, h⟩), hcl'⟩
      · exact hfirst y r2 (InvF P l Q Q0 S pre x r1 y r2) hck2 hle2 hy2 hiy hwp.2 fun a' w' h => ⟨.inr (.inr ⟨by rw [← hiy]; exact hset, h⟩), hcl'⟩
      · exfalso
        have h1 := hd _ (hanc _ hax)
        obtain ⟨q, hq, hqe⟩ := List.mem_map.1 h1
        obtain ⟨o3, ho3, -, -, hearly⟩ := chkPairs_spec hck1
        obtain ⟨oq', hoq', hpr⟩ := hearly q hq
        exact (pairT_spec hpr).ne hqe
      · exfalso
        have h1 := hd _ (hanc _ hay)
        obtain ⟨q, hq, hqe⟩ := List.mem_map.1 h1
        obtain ⟨o3, ho3, -, -, hearly⟩ := chkPairs_spec hck2
        obtain ⟨oq', hoq', hpr⟩ := hearly q hq
        exact (pairT_spec hpr).ne hqe
    · exact hB x r1 (InvF P l Q Q0 S pre x r1 y r2) hck1 hle1 hcov1 hz hI fun a' w' h => ⟨.inr (.inl ⟨getD_set_true hz, h⟩), hcl'⟩
    · exact hB y r2 (InvF P l Q Q0 S pre x r1 y r2) hck2 hle2 hcov2 hz hI fun a' w' h => ⟨.inr (.inr ⟨getD_set_true hz, h⟩), hcl'⟩
  · rintro L a w hL hall ⟨hI, -⟩
    rcases hI with ⟨b, hI, hd⟩ | ⟨hz, p, r, b, hI, hr⟩ | ⟨hz, p, r, b, hI, hr⟩
    · exfalso
      obtain ⟨o3, ho3, -, -, hearly⟩ := chkPairs_spec hck1
      have hxl : x.1 < l.toArray.size := (Array.getElem?_eq_some_iff.1 ho3).1
      obtain ⟨q, hq, hqe⟩ := List.mem_map.1 (hd x.1 (hall _ hxl))
      obtain ⟨oq', hoq', hpr⟩ := hearly q hq
      exact (pairT_spec hpr).ne hqe
    · exact stepEnd hck1 hall hI
    · exact stepEnd hck2 hall hI
end
end Go
namespace Go
open Go.RowKit
theorem wp_region_FC {P : Program} {Q : Exit → Act → World → Prop} {l : List Oper} {id : Nat} {a : Act} {w : World} (S : World → Prop) (pre : List (Nat × Nat)) (x : Nat × Nat) (r1 : List (Nat × Nat)) (y : Nat × Nat) (r2 : List (Nat × Nat)) (hm : P.follows .mixedOrders = true) (hc : chkF l pre x r1 y r2 = true)
    (hS : S w.drew) (h : wpT P l.toArray (fun _ a w => wpT P l.toArray (calmQ Q) S (x :: r1) a w ∧ wpT P l.toArray (calmQ Q) S (y :: r2) a w) S pre a w.drew) : (Code.region id l.toArray true).wp P Q a w :=
  Code.wp_mono (fun e a w h => by cases e <;> first | exact h | exact h.elim) (wp_region_F S pre x r1 y r2 hm hc (fun _ _ _ _ h => h.elim) hS h)
theorem wpT_fork {P : Program} {Q1 Q2 : Exit → Act → World → Prop} {ops : Array Oper} {a : Act} {w : World} {S : World → Prop} {o1 o2 : List (Nat × Nat)} (h1 : wpT P ops Q1 S o1 a w) (h2 : wpT P ops Q2 S o2 a w) : wpT P ops (fun _ a w => wpT P ops Q1 S o1 a w ∧ wpT P ops Q2 S o2 a w) S [] a w := ⟨h1, h2⟩
end Go
