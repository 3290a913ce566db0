/- Proved here: lemmas and contracts (RegT) for the laws of this seat, for all values of the stated types; no further condition. -/
import Derived.Test.YtjbplncpcgfaoaaReg
namespace Go
open Go.RowKit
section
variable {P : Program} {ops : Array Oper} {Q : Exit → Act → World → Prop}
/-- an operation yields v and leaves the world: by itself, or by a call that only reckons -/
def YieldsT (P : Program) (r : Result Next) (v : Value) (w : World) : Prop :=
  r = .ok (.value v) w ∨ ∃ f args, r = .ok (.enter f args) w ∧ Calls P f args w fun e w' => e = .returned v ∧ w' = w
/-- the walk of a drawn region in one order: class 0: yields its value in every world; 1: in every world of which S holds; 2: keeps S; 3: S is needed no more -/
def wpT (P : Program) (ops : Array Oper) (Q : Exit → Act → World → Prop) (S : World → Prop) : List (Nat × Nat) → Act → World → Prop
  | [], a, w => Q .normal a w
  | (i, c) :: r, a, w => match ops[i]? with
    | none => False
    | some o => if Region.wanted o (yielded ops a.tmps) then
        match c with
        | 0 => ∃ v, (∀ w', YieldsT P ((execOp a.eval o).run P w') v w') ∧ wpT P ops Q S r (a.put o.dst v) w
        | 1 => ∃ v, (∀ w', S w' → YieldsT P ((execOp a.eval o).run P w') v w') ∧ wpT P ops Q S r (a.put o.dst v) w
        | 2 => o.wp P a w (fun a' w' => S w' ∧ wpT P ops Q S r a' w') Q ∨ (o.asks P a w ∧ LetsOut Q)
        | _ => o.wp P a w (fun a' w' => wpT P ops Q S r a' w') Q ∨ (o.asks P a w ∧ LetsOut Q)
      else wpT P ops Q S r (a.put o.dst undef) w
/-- bit masks of the operations that must have run before -/
def maskOf (M : List Nat) (o : Oper) : Nat := o.after.toList.foldl (fun m e => if Region.binds .any e then m ||| (1 <<< e.on) ||| M.getD e.on 0 else m) 0
def masks (l : List Oper) : List Nat := l.foldl (fun M o => M ++ [maskOf M o]) []
def ancB (M : List Nat) (i j : Nat) : Bool := (M.getD j 0).testBit i
def readsSlot (ops : Array Oper) (o : Oper) (d : Option Tmp) : Bool := match d with
  | none => false
  | some t => (o.looksAt ops).contains t
/-- may the pair be taken in this order? -/
def pairT (ops : Array Oper) (M : List Nat) (x : Nat) (i ci : Nat) (oi : Oper) (j cj : Nat) (oj : Oper) : Bool :=
  decide (i ≠ j) &&
  -- slots
  (!readsSlot ops oj oi.dst || ancB M i j) && (!readsSlot ops oi oj.dst || (ancB M i j && decide (2 ≤ cj))) && (oi.dst == none || oi.dst != oj.dst) &&
  -- one effect after the other
  (decide (ci < 2) || ancB M i j || i == x) &&
  -- a breaking one waits for all that read
  (!decide (cj = 3) || !decide (ci = 1) || ancB M i j) &&
  -- behind a breaking one nobody reads, and nothing keeps
  (!decide (ci = 3) || (decide (cj = 0) || decide (cj = 3)))
def chkPairs (ops : Array Oper) (M : List Nat) (x : Nat) : List (Nat × Nat) → Bool
  | [] => true
  | (i, ci) :: r => (match ops[i]? with
    | none => false
    | some oi => (decide (2 ≤ ci) || !readsSlot ops oi oi.dst) && r.all fun (j, cj) => match ops[j]? with
      | none => false
      | some oj => pairT ops M x i ci oi j cj oj) && chkPairs ops M x r
def chkX (l : List Oper) (x : Nat) (ord : List (Nat × Nat)) : Bool :=
  backEdges l.toArray && Region.noSelect l.toArray && chkPairs l.toArray (masks l) x ord && ord.all (fun p => decide (p.2 ≤ 3)) && (List.range l.length).all (fun i => (ord.map (·.1)).contains i) && decide ((masks l).length = l.length) &&
  (List.range l.length).all (fun i => match l[i]? with | some o => (masks l).getD i 0 == maskOf (masks l) o | none => false)
def chkT (l : List Oper) (ord : List (Nat × Nat)) : Bool := chkX l l.length ord
theorem maskOf_spec (M : List Nat) (o : Oper) (x : Nat) (h : (maskOf M o).testBit x = true) : ∃ e ∈ o.after, Region.binds .any e = true ∧ (x = e.on ∨ (M.getD e.on 0).testBit x = true) := by
  unfold maskOf at h
  have key : ∀ (es : List Edge) (m : Nat), (es.foldl (fun m e => if Region.binds .any e then m ||| (1 <<< e.on) ||| M.getD e.on 0 else m) m).testBit x = true →
      m.testBit x = true ∨ ∃ e ∈ es, Region.binds .any e = true ∧ (x = e.on ∨ (M.getD e.on 0).testBit x = true) := by
    intro es
    induction es with
    | nil => intro m h; exact .inl h
    | cons e es ih =>
      intro m h
      rw [List.foldl_cons] at h
      rcases ih _ h with h | ⟨e', he', h'⟩
      · split at h
        · rename_i hb
          rw [Nat.testBit_or, Nat.testBit_or, Bool.or_eq_true, Bool.or_eq_true] at h
          rcases h with (h | h) | h
          · exact .inl h
          · refine .inr ⟨e, by simp, hb, .inl ?_⟩
            rw [Nat.one_shiftLeft, Nat.testBit_two_pow] at h
            have := of_decide_eq_true h; omega
          · exact .inr ⟨e, by simp, hb, .inr h⟩
        · exact .inl h
      · exact .inr ⟨e', by simp [he'], h'⟩
  rcases key _ _ h with h | ⟨e, he, h⟩
  · simp at h
  · exact ⟨e, by simpa using he, h⟩
/-- an ancestor of one whose direct ones have run has run -/
theorem anc_listed {l : List Oper} {M : List Nat} (hb : backEdges l.toArray = true) (hM : ∀ i o, l[i]? = some o → M.getD i 0 = maskOf M o) {L : Array Bool}
    (hcl : ∀ j o, l[j]? = some o → L.getD j false = true → ∀ e ∈ o.after, Region.binds .any e = true → L.getD e.on false = true) :
    ∀ (j : Nat) (o : Oper), l[j]? = some o → (∀ e ∈ o.after, Region.binds .any e = true → L.getD e.on false = true) → ∀ x, ancB M x j = true → L.getD x false = true := by
  intro j
  induction j using Nat.strongRecOn with
  | _ j ih =>
    intro o ho hd x hx
    unfold ancB at hx
    rw [hM j o ho] at hx
    obtain ⟨e, he, hbd, h⟩ := maskOf_spec M o x hx
    rcases h with rfl | h
    · exact hd e he hbd
    · have hlt : e.on < j := backEdges_spec hb (by simpa using ho) he hbd
      have hjl : j < l.length := by
        rcases Nat.lt_or_ge j l.length with h | h
        · exact h
        · simp [List.getElem?_eq_none h] at ho
      have ho' : l[e.on]? = some (l[e.on]'(by omega)) := by simp
      exact ih e.on hlt _ ho' (hcl e.on _ ho' (hd e he hbd)) x h
/-- two frames agree on what an operation looks at -/
def AgreeOn (o : Oper) (a b : Act) : Prop := ∀ t ∈ o.looksAt ops, a.tmps[t]? = b.tmps[t]?
theorem eval_agree {o : Oper} {a b : Act} (h : AgreeOn (ops := ops) o a b) (x : Operand) (hx : x ∈ o.op.operands) : a.eval x = b.eval x := by
  cases x with
  | tmp t =>
    have := h t (List.mem_append_left _ (List.mem_filterMap.2 ⟨.tmp t, by simpa using hx, rfl⟩))
    simp only [Act.eval, Array.getD_eq_getD_getElem?, this]
  | _ => rfl
theorem exec_agree {o : Oper} (hs : ∀ cs b, o.op ≠ .select cs b) {a b : Act} (h : AgreeOn (ops := ops) o a b) : execOp a.eval o = execOp b.eval o :=
  execOp_congr o hs (fun x hx => eval_agree h x hx)
theorem wanted_agree {o : Oper} {a b : Act} (h : AgreeOn (ops := ops) o a b) : Region.wanted o (yielded ops a.tmps) = Region.wanted o (yielded ops b.tmps) := by
  unfold Region.wanted
  cases hg : o.guard with
  | none => rfl
  | some gw =>
    obtain ⟨g, want⟩ := gw
    have hy : yielded ops a.tmps g = yielded ops b.tmps g := by
      unfold yielded
      cases ht : (ops[g]?).bind (·.dst) with
      | none => rfl
      | some t =>
        have := h t (by simp [Oper.looksAt, hg, ht])
        simp [this]
    simp only [hy]
theorem put_get (a : Act) (d : Option Tmp) (v : Value) (t : Nat) (h : d ≠ some t) : (a.put d v).tmps[t]? = a.tmps[t]? := by
  cases d with
  | none => rfl
  | some k => exact Array.getElem?_setIfInBounds_ne (fun e => h (by rw [e]))
theorem put_size (a : Act) (d : Option Tmp) (v : Value) : (a.put d v).tmps.size = a.tmps.size := by
  cases d <;> simp [Act.put]
theorem put_defers (a : Act) (d : Option Tmp) (v : Value) : (a.put d v).defers = a.defers := by cases d <;> rfl
/-- what holds of a quiet operation that the order has passed and that has not run yet -/
def PendT (P : Program) (ops : Array Oper) (S : World → Prop) (b : Act) (p : Nat × Nat) : Prop := p.2 < 2 ∧ ∃ o v, ops[p.1]? = some o ∧
  (if Region.wanted o (yielded ops b.tmps) then (∀ w', (p.2 = 1 → S w') → YieldsT P ((execOp b.eval o).run P w') v w') else v = undef) ∧
  (∀ d, o.dst = some d → d < b.tmps.size → b.tmps[d]? = some v)
structure InvT (P : Program) (ops : Array Oper) (Q : Exit → Act → World → Prop) (S : World → Prop) (ord pre r : List (Nat × Nat)) (L : Array Bool) (a b : Act) (w : World) : Prop where
  split : ord = pre ++ r
  wp : wpT P ops Q S r b w
  todo : ∀ p ∈ r, L.getD p.1 false = false
  pend : ∀ p ∈ pre, L.getD p.1 false = true ∨ PendT P ops S b p
  size : a.tmps.size = b.tmps.size
  defers : a.defers = b.defers
  same : ∀ t, (∀ p ∈ pre, L.getD p.1 false = false → ∀ o, ops[p.1]? = some o → o.dst ≠ some t) → a.tmps[t]? = b.tmps[t]?
  held : (∀ p ∈ pre, p.2 ≠ 3) → S w
theorem readsSlot_iff {o : Oper} {d : Option Tmp} : readsSlot ops o d = true ↔ ∃ t, d = some t ∧ t ∈ o.looksAt ops := by
  cases d <;> simp [readsSlot]
theorem chkPairs_head {M : List Nat} {x : Nat} {r : List (Nat × Nat)} {p : Nat × Nat} (h : chkPairs ops M x (p :: r) = true) :
    ∃ o, ops[p.1]? = some o ∧ (2 ≤ p.2 ∨ readsSlot ops o o.dst = false) ∧ (∀ q ∈ r, ∃ oq, ops[q.1]? = some oq ∧ pairT ops M x p.1 p.2 o q.1 q.2 oq = true) ∧ chkPairs ops M x r = true := by
  unfold chkPairs at h
  obtain ⟨i, c⟩ := p
  dsimp only at h ⊢
  cases ho : ops[i]? with
  | none => simp [ho] at h
  | some o =>
    simp only [ho, Bool.and_eq_true, Bool.or_eq_true, decide_eq_true_eq, Bool.not_eq_true', List.all_eq_true] at h
    refine ⟨o, rfl, h.1.1, fun q hq => ?_, h.2⟩
    have := h.1.2 q hq
    cases hoq : ops[q.1]? with
    | none => simp [hoq] at this
    | some oq => exact ⟨oq, rfl, by simpa [hoq] using this⟩
theorem chkPairs_spec {M : List Nat} {x : Nat} : ∀ {pre r : List (Nat × Nat)} {p : Nat × Nat}, chkPairs ops M x (pre ++ p :: r) = true →
    ∃ o, ops[p.1]? = some o ∧ (2 ≤ p.2 ∨ readsSlot ops o o.dst = false) ∧ (∀ q ∈ r, ∃ oq, ops[q.1]? = some oq ∧ pairT ops M x p.1 p.2 o q.1 q.2 oq = true) ∧
      (∀ q ∈ pre, ∃ oq, ops[q.1]? = some oq ∧ pairT ops M x q.1 q.2 oq p.1 p.2 o = true)
  | [], r, p, h => by
    obtain ⟨o, ho, h1, h2, _⟩ := chkPairs_head h
    exact ⟨o, ho, h1, h2, fun q hq => by cases hq⟩
  | xx :: pre, r, p, h => by
    obtain ⟨ox, hox, _, h5, h6⟩ := chkPairs_head h
    obtain ⟨o, ho, h1, h2, h3⟩ := chkPairs_spec (pre := pre) h6
    refine ⟨o, ho, h1, h2, fun q hq => ?_⟩
    rcases List.mem_cons.1 hq with rfl | hq
    · obtain ⟨o', ho', h6⟩ := h5 p (by simp)
      rw [ho] at ho'; cases ho'
      exact ⟨ox, hox, h6⟩
    · exact h3 q hq
structure PairT (ops : Array Oper) (M : List Nat) (x : Nat) (i ci : Nat) (oi : Oper) (j cj : Nat) (oj : Oper) : Prop where
  ne : i ≠ j
  fwd : ∀ t, oi.dst = some t → t ∈ oj.looksAt ops → ancB M i j = true
  bwd : ∀ t, oj.dst = some t → t ∈ oi.looksAt ops → ancB M i j = true ∧ 2 ≤ cj
  dst : ∀ t, oi.dst = some t → oj.dst ≠ some t
  chain : 2 ≤ ci → i ≠ x → ancB M i j = true
  brk : cj = 3 → ci = 1 → ancB M i j = true
  past : ci = 3 → cj = 0 ∨ cj = 3
theorem pairT_spec {M : List Nat} {x : Nat} {i ci j cj : Nat} {oi oj : Oper} (h : pairT ops M x i ci oi j cj oj = true) : PairT ops M x i ci oi j cj oj := by
  unfold pairT at h
  simp only [Bool.and_eq_true, Bool.or_eq_true, decide_eq_true_eq, Bool.not_eq_true', decide_eq_false_iff_not, bne_iff_ne, beq_iff_eq] at h
  obtain ⟨⟨⟨⟨⟨⟨h1, h2⟩, h3⟩, h4⟩, h5⟩, h6⟩, h7⟩ := h
  refine ⟨h1, fun t ht hl => ?_, fun t ht hl => ?_, fun t ht hl => ?_, fun hc hx => ?_, fun a b => ?_, fun a => ?_⟩
  · rcases h2 with h2 | h2
    · have := readsSlot_iff.2 ⟨t, ht, hl⟩; rw [h2] at this; cases this
    · exact h2
  · rcases h3 with h3 | h3
    · have := readsSlot_iff.2 ⟨t, ht, hl⟩; rw [h3] at this; cases this
    · exact h3
  · rcases h4 with h4 | h4
    · rw [ht] at h4; cases h4
    · exact h4 (ht.trans hl.symm)
  · rcases h5 with (h5 | h5) | h5
    · omega
    · exact h5
    · exact absurd h5 hx
  · rcases h6 with (h6 | h6) | h6
    · exact absurd a h6
    · exact absurd b h6
    · exact h6
  · rcases h7 with h7 | h7
    · exact absurd a h7
    · exact h7

theorem upon_agree {o : Oper} {a b : Act} {next next' : Act → World → Prop} (hd : a.defers = b.defers) (hQ : ∀ c a a' w, Q (.panic c) a w → Q (.panic c) a' w)
    (hn : ∀ D v w', next ({ b with defers := D }.put o.dst v) w' → next' ({ a with defers := D }.put o.dst v) w') {r : Result Next} (h : o.upon P b next Q r) : o.upon P a next' Q r := by
  have hb : ∀ v w', next (b.put o.dst v) w' → next' (a.put o.dst v) w' := fun v w' h => by
    have := hn b.defers v w' h
    rw [← hd] at this
    exact this
  cases r with
  | ok n w' =>
    cases n <;> simp only [Oper.upon] at h ⊢
    case value v => exact hb v _ h
    case skip => exact hb _ _ h
    case defer d => rw [hd]; exact hn _ _ _ h
    case enter f args =>
      refine Calls.mono h fun e w'' he => ?_
      cases e with
      | returned v => exact hb v _ he
      | panicked c => exact hQ _ _ _ _ he
      | outgrown => exact he
    case row row args => exact Rows.mono h fun v w'' he => hb v _ he
  | halt x w' =>
    cases x <;> simp only [Oper.upon] at h ⊢
    case panic v => exact hQ _ _ _ _ h
theorem PendT.put {S : World → Prop} {b : Act} {q : Nat × Nat} (hns : ∀ (j : Nat) (o : Oper) cs c, ops[j]? = some o → o.op ≠ .select cs c) (h : PendT P ops S b q) (d : Option Tmp) (v : Value) (D : List Deferred)
    (hl : ∀ oq, ops[q.1]? = some oq → ∀ t, d = some t → t ∉ oq.looksAt ops ∧ oq.dst ≠ some t) : PendT P ops S ({ b with defers := D }.put d v) q := by
  obtain ⟨hc, o, u, ho, hv, hs⟩ := h
  have ha : AgreeOn (ops := ops) o ({ b with defers := D }.put d v) b := fun t ht => by
    rw [put_get]
    rintro rfl
    exact (hl o ho t rfl).1 ht
  refine ⟨hc, o, u, ho, ?_, fun k hk hlt => ?_⟩
  · rw [wanted_agree ha, exec_agree (hns _ _ · · ho) ha]; exact hv
  · rw [put_get _ _ _ _ (fun e => (hl o ho k e).2 hk)]
    exact hs k hk (by simpa [put_size] using hlt)
theorem put_same {a b : Act} {d : Option Tmp} {v : Value} {t : Nat} (hs : a.tmps.size = b.tmps.size) (h : d ≠ some t → a.tmps[t]? = b.tmps[t]?) : (a.put d v).tmps[t]? = (b.put d v).tmps[t]? := by
  by_cases e : d = some t
  · subst e
    simp only [Act.put, Array.getElem?_setIfInBounds, hs]
    simp
  · rw [put_get _ _ _ _ e, put_get _ _ _ _ e]; exact h e
section
variable {S : World → Prop} {l : List Oper} {M : List Nat} {x : Nat} {ord : List (Nat × Nat)}
/-- the order goes on past what is quiet -/
theorem InvT.adv (hns : ∀ (j : Nat) (o : Oper) cs c, ops[j]? = some o → o.op ≠ .select cs c) (hck : chkPairs ops M x ord = true) : ∀ (r pre : List (Nat × Nat)) (L : Array Bool) (a b : Act) (w : World), InvT P ops Q S ord pre r L a b w →
    ∃ pre' r' b', InvT P ops Q S ord pre' r' L a b' w ∧ (r' = [] ∨ ∃ p r'', r' = p :: r'' ∧ 2 ≤ p.2)
  | [], pre, L, a, b, w, h => ⟨pre, [], b, h, .inl rfl⟩
  | p :: r, pre, L, a, b, w, h => by
    by_cases hp : 2 ≤ p.2
    · exact ⟨pre, _, b, h, .inr ⟨p, r, rfl, hp⟩⟩
    · obtain ⟨i, c⟩ := p
      have hsp := h.split
      rw [hsp] at hck
      obtain ⟨o, ho, hself, hlate, hearly⟩ := chkPairs_spec hck
      rw [← hsp] at hck
      dsimp only at hp ho
      have hself' : ∀ t, o.dst = some t → t ∉ o.looksAt ops := fun t ht hl => by
        rcases hself with hself | hself
        · exact hp hself
        · have := readsSlot_iff.2 ⟨t, ht, hl⟩; rw [hself] at this; cases this
      have hwp := h.wp
      unfold wpT at hwp
      rw [ho] at hwp
      dsimp only at hwp
      have key : ∀ v, (if Region.wanted o (yielded ops b.tmps) then (∀ w', (c = 1 → S w') → YieldsT P ((execOp b.eval o).run P w') v w') else v = undef) → wpT P ops Q S r (b.put o.dst v) w →
          InvT P ops Q S ord (pre ++ [(i, c)]) r L a (b.put o.dst v) w := by
        intro v hv hw'
        have ha : AgreeOn (ops := ops) o (b.put o.dst v) b := fun t ht => put_get _ _ _ _ (fun e => hself' t e ht)
        refine ⟨by rw [hsp]; simp, hw', fun q hq => h.todo q (by simp [hq]), fun q hq => ?_, by rw [put_size]; exact h.size, by rw [put_defers]; exact h.defers, fun t ht => ?_, fun h3 => h.held (fun q hq => h3 q (by simp [hq]))⟩
        · rcases List.mem_append.1 hq with hq | hq
          · rcases h.pend q hq with hq' | hq'
            · exact .inl hq'
            · refine .inr (PendT.put (D := b.defers) hns hq' o.dst v fun oq hoq t ht => ?_)
              obtain ⟨oq', hoq', hpr⟩ := hearly q hq
              rw [hoq] at hoq'; cases hoq'
              have hpr := pairT_spec hpr
              exact ⟨fun hm => hp (hpr.bwd t ht hm).2, fun e => hpr.dst t e ht⟩
          · obtain rfl : q = (i, c) := by simpa using hq
            refine .inr ⟨Nat.lt_of_not_le hp, o, v, ho, ?_, fun d hd hlt => ?_⟩
            · rw [wanted_agree ha, exec_agree (hns _ _ · · ho) ha]; exact hv
            · rw [put_size] at hlt
              rw [hd]
              simp [Act.put, hlt]
        · have hti : o.dst ≠ some t := ht (i, c) (by simp) (h.todo (i, c) (by simp)) o ho
          rw [put_get _ _ _ _ hti]
          exact h.same t (fun q hq => ht q (by simp [hq]))
      split at hwp
      · rename_i hwt
        rcases c with _ | _ | c
        · obtain ⟨v, hv, hw'⟩ := hwp
          exact InvT.adv hns hck r _ L a _ w (key v (by rw [if_pos hwt]; exact fun w' _ => hv w') hw')
        · obtain ⟨v, hv, hw'⟩ := hwp
          exact InvT.adv hns hck r _ L a _ w (key v (by rw [if_pos hwt]; exact fun w' hS => hv w' (hS rfl)) hw')
        · omega
      · rename_i hwt
        exact InvT.adv hns hck r _ L a _ w (key undef (by rw [if_neg hwt]) hwp)
structure OnWay (l : List Oper) (M : List Nat) (x : Nat) (ord : List (Nat × Nat)) (L : Array Bool) (i : Nat) (o : Oper) : Prop where
  ns : ∀ (j : Nat) (o : Oper) cs c, l.toArray[j]? = some o → o.op ≠ .select cs c
  ck : chkPairs l.toArray M x ord = true
  le : ∀ p ∈ ord, p.2 ≤ 3
  sz : L.size = l.length
  ho : l.toArray[i]? = some o
  no : L.getD i false = false
  anc : ∀ y, ancB M y i = true → L.getD y false = true
  ancOf : ∀ j, L.getD j false = true → ∀ y, ancB M y j = true → L.getD y false = true
theorem stepQuiet {Q2 : Exit → Act → World → Prop} {G : Array Bool → Act → World → Prop} {L : Array Bool} {i c : Nat} {o : Oper} {a b : Act} {w : World} {pre r : List (Nat × Nat)} (hW : OnWay l M x ord L i o) (hI : InvT P l.toArray Q S ord pre r L a b w) (_hr : r = [] ∨ ∃ p r'', r = p :: r'' ∧ 2 ≤ p.2)
    (hic : (i, c) ∈ pre) (hG : ∀ v, InvT P l.toArray Q S ord pre r (L.setIfInBounds i true) (a.put o.dst v) b w → G (L.setIfInBounds i true) (a.put o.dst v) w) : wpOp P l.toArray Q2 i (G (L.setIfInBounds i true)) a w := by
  obtain ⟨hns, hck, hle, hL, ho, hi', hanc, hancOf⟩ := hW
  -- agreement of the two frames on what the operation looks at, where nobody that it waits for is pending
  have hagree : (∀ q ∈ pre, q.1 ≠ i → L.getD q.1 false = false → ∀ oq, l.toArray[q.1]? = some oq → ∀ t, oq.dst = some t → t ∉ o.looksAt l.toArray) → (∀ t, o.dst = some t → c < 2 → t ∉ o.looksAt l.toArray) → ((i, c) ∈ pre → c < 2) →
      AgreeOn (ops := l.toArray) o a b := by
    intro h1 h2 h3 t ht
    refine hI.same t fun q hq hqL oq hoq e => ?_
    by_cases hqi : q.1 = i
    · rw [hqi, ho] at hoq; cases hoq
      rcases hI.pend q hq with hp | hp
      · rw [hqL] at hp; cases hp
      · have hsp := hI.split
        obtain ⟨x, y, hxy⟩ := List.append_of_mem hq
        rw [hsp, hxy, List.append_assoc, List.cons_append] at hck
        obtain ⟨o2, ho2, hself, _⟩ := chkPairs_spec hck
        rw [hqi, ho] at ho2; cases ho2
        rcases hself with hself | hself
        · have := hp.1; omega
        · have := readsSlot_iff.2 ⟨t, e, ht⟩; rw [hself] at this; cases this
    · exact h1 q hq hqi hqL oq hoq t e ht
  have hpd : PendT P l.toArray S b (i, c) := by
    rcases hI.pend _ hic with hp | hp
    · rw [hi'] at hp; cases hp
    · exact hp
  obtain ⟨hc2, o2, v, ho2, hv, hslot⟩ := hpd
  dsimp only at ho2 hc2
  rw [ho] at ho2; cases ho2
  obtain ⟨x, y, hxy⟩ := List.append_of_mem hic
  have hck' := hck
  rw [hI.split, hxy, List.append_assoc, List.cons_append] at hck'
  obtain ⟨o3, ho3, hself, hlate, hearly⟩ := chkPairs_spec hck'
  dsimp only at ho3
  rw [ho] at ho3; cases ho3
  have hag : AgreeOn (ops := l.toArray) o a b := by
    refine hagree (fun q hq hqi hqL oq hoq t ht htl => ?_) (fun t ht _ htl => ?_) (fun _ => hc2)
    · rw [hxy] at hq
      rcases List.mem_append.1 hq with hq | hq
      · obtain ⟨oq', hoq', hpr⟩ := hearly q hq
        rw [hoq] at hoq'; cases hoq'
        have := hanc q.1 ((pairT_spec hpr).fwd t ht htl)
        rw [hqL] at this; cases this
      · rcases List.mem_cons.1 hq with rfl | hq
        · exact hqi rfl
        · obtain ⟨oq', hoq', hpr⟩ := hlate q (by simp [hq])
          rw [hoq] at hoq'; cases hoq'
          have h2 := ((pairT_spec hpr).bwd t ht htl).2
          rcases hI.pend q (by rw [hxy]; simp [hq]) with hp | hp
          · rw [hqL] at hp; cases hp
          · have := hp.1; omega
    · rcases hself with hself | hself
      · dsimp only at hself; omega
      · have := readsSlot_iff.2 ⟨t, ht, htl⟩; rw [hself] at this; cases this
  have hSw : c = 1 → S w := fun hc1 => hI.held fun q hq hq3 => by
    have hqL : L.getD q.1 false = true := by
      rcases hI.pend q hq with hp | hp
      · exact hp
      · have := hp.1; omega
    rw [hxy] at hq
    rcases List.mem_append.1 hq with hq | hq
    · obtain ⟨oq', hoq', hpr⟩ := hearly q hq
      have := (pairT_spec hpr).past hq3
      dsimp only at this
      omega
    · rcases List.mem_cons.1 hq with rfl | hq
      · dsimp only at hq3; omega
      · obtain ⟨oq', hoq', hpr⟩ := hlate q (by simp [hq])
        have := hancOf q.1 hqL i ((pairT_spec hpr).brk hq3 hc1)
        rw [hi'] at this; cases this
  have hfin : InvT P l.toArray Q S ord pre r (L.setIfInBounds i true) (a.put o.dst v) b w := by
    refine ⟨hI.split, hI.wp, fun p hp => ?_, fun q hq => ?_, by rw [put_size]; exact hI.size, by rw [put_defers]; exact hI.defers, fun t ht => ?_, hI.held⟩
    · have hne : i ≠ p.1 := by
        obtain ⟨oq', hoq', hpr⟩ := hlate p (by simp [hp])
        exact (pairT_spec hpr).ne
      rw [getD_set_ne false hne]; exact hI.todo p hp
    · rcases hI.pend q hq with hp | hp
      · exact .inl (getD_set_true hp)
      · exact .inr hp
    · by_cases e : o.dst = some t
      · rw [e]
        simp only [Act.put, Array.getElem?_setIfInBounds]
        by_cases hlt : t < b.tmps.size
        · rw [hslot t e hlt]; simp [hI.size, hlt]
        · simp [hI.size, hlt]
      · rw [put_get _ _ _ _ e]
        refine hI.same t fun q hq hqL oq hoq he => ?_
        by_cases hqi : i = q.1
        · rw [← hqi, ho] at hoq; cases hoq; exact e he
        · exact ht q hq (by rw [getD_set_ne false hqi]; exact hqL) oq hoq he
  unfold wpOp
  rw [ho]
  dsimp only
  rw [wanted_agree hag]
  split
  · rename_i hwt
    rw [if_pos hwt] at hv
    refine .inl ?_
    unfold Oper.wp
    rw [exec_agree (hns _ _ · · ho) hag]
    rcases hv w hSw with hv | ⟨f, args, hv, hcl⟩
    · rw [hv]
      exact hG _ hfin
    · rw [hv]
      refine hcl.mono ?_
      rintro e w2 ⟨rfl, rfl⟩
      exact hG _ hfin
  · rename_i hwt
    rw [if_neg hwt] at hv
    subst hv
    exact hG _ hfin
theorem stepNext {G : Array Bool → Act → World → Prop} {L : Array Bool} {p1 p2 : Nat} {o : Oper} {a b : Act} {w : World} {pre r' : List (Nat × Nat)} (hW : OnWay l M x ord L p1 o) (hI : InvT P l.toArray Q S ord pre ((p1, p2) :: r') L a b w) (hp2 : 2 ≤ p2) (hQ : ∀ c a a' w, Q (.panic c) a w → Q (.panic c) a' w)
    (hG : ∀ a' w', (∃ pre r b, InvT P l.toArray Q S ord pre r (L.setIfInBounds p1 true) a' b w' ∧ (r = [] ∨ ∃ p r'', r = p :: r'' ∧ 2 ≤ p.2)) → G (L.setIfInBounds p1 true) a' w') : wpOp P l.toArray Q p1 (G (L.setIfInBounds p1 true)) a w := by
  obtain ⟨hns, hck, hle, hL, ho, hi', hanc, hancOf⟩ := hW
  have hilt : p1 < l.length := by
    rcases Nat.lt_or_ge p1 l.length with h | h
    · exact h
    · simp [List.getElem?_eq_none h] at ho
  have hck' := hck
  rw [hI.split] at hck'
  obtain ⟨o3, ho3, -, hlate, hearly⟩ := chkPairs_spec hck'
  dsimp only at ho3
  rw [ho] at ho3; cases ho3
  have hag : AgreeOn (ops := l.toArray) o a b := by
    intro t ht
    refine hI.same t fun q hq hqL oq hoq e => ?_
    obtain ⟨oq', hoq', hpr⟩ := hearly q hq
    rw [hoq] at hoq'; cases hoq'
    have := hanc q.1 ((pairT_spec hpr).fwd t e ht)
    rw [hqL] at this; cases this
  have hnext : ∀ D v w', ((∀ q ∈ pre ++ [(p1, p2)], q.2 ≠ 3) → S w') → wpT P l.toArray Q S r' ({ b with defers := D }.put o.dst v) w' →
      (∃ pre r b, InvT P l.toArray Q S ord pre r (L.setIfInBounds p1 true) ({ a with defers := D }.put o.dst v) b w' ∧ (r = [] ∨ ∃ p r'', r = p :: r'' ∧ 2 ≤ p.2)) := by
    intro D v w' hSw hwt
    refine InvT.adv hns hck r' (pre ++ [(p1, p2)]) _ _ ({ b with defers := D }.put o.dst v) w' ⟨by rw [hI.split]; simp, hwt, fun q hq => ?_, fun q hq => ?_, by rw [put_size, put_size]; exact hI.size, by rw [put_defers, put_defers], fun t ht => ?_, hSw⟩
    · obtain ⟨oq', hoq', hpr⟩ := hlate q hq
      rw [getD_set_ne false (pairT_spec hpr).ne]
      exact hI.todo q (by simp [hq])
    · rcases List.mem_append.1 hq with hq | hq
      · rcases hI.pend q hq with hp | hp
        · exact .inl (getD_set_true hp)
        · rcases hqL : L.getD q.1 false with _ | _
          · refine .inr (PendT.put hns hp o.dst v D fun oq hoq t ht => ?_)
            obtain ⟨oq', hoq', hpr⟩ := hearly q hq
            rw [hoq] at hoq'; cases hoq'
            have hpr := pairT_spec hpr
            refine ⟨fun hm => ?_, fun e => hpr.dst t e ht⟩
            have := hanc q.1 (hpr.bwd t ht hm).1
            rw [hqL] at this; cases this
          · exact .inl (getD_set_true hqL)
      · obtain rfl : q = (p1, p2) := by simpa using hq
        left
        have : p1 < L.size := by rw [hL]; exact hilt
        simp [this]
    · refine put_same hI.size fun e => ?_
      refine hI.same t fun q hq hqL oq hoq he => ?_
      by_cases hqi : p1 = q.1
      · rw [← hqi, ho] at hoq; cases hoq; exact e he
      · exact ht q (by simp [hq]) (by rw [getD_set_ne false hqi]; exact hqL) oq hoq he
  have hwp := hI.wp
  unfold wpT at hwp
  rw [ho] at hwp
  dsimp only at hwp
  unfold wpOp
  rw [ho]
  dsimp only
  rw [wanted_agree hag]
  split
  · rename_i hwt
    rw [if_pos hwt] at hwp
    have hasks : o.asks P b w → o.asks P a w := fun h => by unfold Oper.asks at h ⊢; rw [exec_agree (hns _ _ · · ho) hag]; exact h
    have hgo : ∀ {next next' : Act → World → Prop}, (∀ D v w', next ({ b with defers := D }.put o.dst v) w' → next' ({ a with defers := D }.put o.dst v) w') →
        o.wp P b w next Q → o.wp P a w next' Q := fun hn h => by
      unfold Oper.wp at h ⊢
      rw [exec_agree (hns _ _ · · ho) hag]
      exact upon_agree (P := P) hI.defers hQ hn h
    rcases p2 with _ | _ | _ | p2
    · omega
    · omega
    · exact hwp.imp (hgo (fun D v w' h => hG _ _ (hnext D v w' (fun _ => h.1) h.2))) (fun h => ⟨hasks h.1, h.2⟩)
    · rcases p2 with _ | p2
      · exact hwp.imp (hgo (fun D v w' h => hG _ _ (hnext D v w' (fun h3 => absurd rfl (h3 (p1, 3) (by simp))) h))) (fun h => ⟨hasks h.1, h.2⟩)
      · exfalso
        have := hle _ (by rw [hI.split]; simp : (p1, p2 + 1 + 1 + 1 + 1) ∈ ord)
        dsimp only at this; omega
  · rename_i hwt
    rw [if_neg hwt] at hwp
    have := hnext a.defers undef w (fun h3 => hI.held fun q hq => h3 q (by simp [hq])) (by rw [hI.defers]; exact hwp)
    exact hG _ _ this
theorem stepEnd {L : Array Bool} {a b : Act} {w : World} {pre r : List (Nat × Nat)} (hck : chkPairs l.toArray M x ord = true) (hall : ∀ i, i < l.toArray.size → L.getD i false = true) (hI : InvT P l.toArray Q S ord pre r L a b w) : Q .normal a w := by
  have hlist : ∀ p ∈ ord, L.getD p.1 false = true := fun p hp => by
    rw [hI.split] at hp hck
    obtain ⟨x, y, hxy⟩ := List.append_of_mem hp
    rw [hxy] at hck
    obtain ⟨o, ho, _⟩ := chkPairs_spec hck
    exact hall p.1 (by
      rcases Nat.lt_or_ge p.1 l.toArray.size with h | h
      · exact h
      · simp [Array.getElem?_eq_none h] at ho)
  obtain rfl : r = [] := by
    cases r with
    | nil => rfl
    | cons p r =>
      have h1 := hI.todo p (by simp)
      have h2 := hlist p (by rw [hI.split]; simp)
      rw [h1] at h2; cases h2
  have hab : a = b := by
    have ht : a.tmps = b.tmps := by
      apply Array.ext_getElem?
      intro t
      refine hI.same t fun q hq hqL => ?_
      have := hlist q (by rw [hI.split]; simp [hq])
      rw [hqL] at this; cases this
    have hd := hI.defers
    cases a; cases b; simp_all
  subst hab
  exact hI.wp
theorem wp_region_T {id : Nat} {a : Act} {w : World} (S : World → Prop) (ord : List (Nat × Nat)) (hm : P.follows .mixedOrders = true) (hc : chkT l ord = true) (hQ : ∀ c a a' w, Q (.panic c) a w → Q (.panic c) a' w)
    (hS : S w.drew) (h : wpT P l.toArray Q S ord a w.drew) : (Code.region id l.toArray true).wp P Q a w := by
  unfold chkT chkX at hc
  simp only [Bool.and_eq_true, List.all_eq_true, List.mem_range, List.contains_iff_mem, decide_eq_true_eq] at hc
  obtain ⟨⟨⟨⟨⟨⟨hb, hsel⟩, hck⟩, hle⟩, hcov⟩, -⟩, hmask⟩ := hc
  have hns := Region.noSelect_spec hsel
  obtain ⟨M, hMd⟩ : ∃ M, M = masks l := ⟨_, rfl⟩
  rw [← hMd] at hck hmask
  have hM : ∀ i o, l[i]? = some o → M.getD i 0 = maskOf M o := fun i o ho => by
    have hi : i < l.length := by
      rcases Nat.lt_or_ge i l.length with h | h
      · exact h
      · simp [List.getElem?_eq_none h] at ho
    have := hmask i hi
    rw [ho] at this
    simpa using this
  refine wp_region_inv hm hb (fun L a w => (∃ pre r b, InvT P l.toArray Q S ord pre r L a b w ∧ (r = [] ∨ ∃ p r'', r = p :: r'' ∧ 2 ≤ p.2)) ∧
    (∀ j o, l[j]? = some o → L.getD j false = true → ∀ e ∈ o.after, Region.binds .any e = true → L.getD e.on false = true)) ?_ ?_ ?_
  · refine ⟨InvT.adv hns hck ord [] _ a a w.drew ⟨rfl, h, fun p _ => ?_, (fun p hp => by cases hp), rfl, rfl, fun _ _ => rfl, fun _ => hS⟩, fun j o ho hj => ?_⟩
    · by_cases hj : p.1 < l.length <;> simp [hj]
    · exfalso
      by_cases hj' : j < l.length <;> simp [hj'] at hj
  · rintro L i o a w ho hL hi hpre ⟨⟨pre, r, b, hI, hr⟩, hcl⟩
    have ho' : l[i]? = some o := by simpa using ho
    have hilt : i < l.length := by
      rcases Nat.lt_or_ge i l.length with h | h
      · exact h
      · simp [List.getElem?_eq_none h] at ho'
    have hi' : L.getD i false = false := by
      have : i < L.size := by rw [hL]; simpa using hilt
      simp [this] at hi ⊢; exact hi
    have hcl' : ∀ j o', l[j]? = some o' → (L.setIfInBounds i true).getD j false = true → ∀ e ∈ o'.after, Region.binds .any e = true → (L.setIfInBounds i true).getD e.on false = true := by
      intro j o' hj hLj e he hbd
      by_cases hji : i = j
      · subst hji
        rw [ho'] at hj; cases hj
        exact getD_set_true (hpre e he hbd)
      · rw [getD_set_ne false hji] at hLj
        exact getD_set_true (hcl j o' hj hLj e he hbd)
    have hanc : ∀ x, ancB M x i = true → L.getD x false = true := anc_listed hb hM hcl i o ho' hpre
    have hancOf : ∀ j, L.getD j false = true → ∀ x, ancB M x j = true → L.getD x false = true := fun j hj x hx => by
      have hjl : j < l.length := by
        rcases Nat.lt_or_ge j l.length with h | h
        · exact h
        · have : ¬ j < L.size := by rw [hL]; simpa using h
          simp [this] at hj
      have hoj : l[j]? = some l[j] := by simp
      exact anc_listed hb hM hcl j l[j] hoj (hcl j _ hoj hj) x hx
    have hin : ∃ c, (i, c) ∈ ord := by
      have := hcov i hilt
      obtain ⟨p, hp, hpe⟩ := List.mem_map.1 this
      exact ⟨p.2, by rw [← hpe]; exact hp⟩
    obtain ⟨c, hic⟩ := hin
    rw [hI.split] at hic
    have hW : OnWay l M l.length ord L i o := ⟨hns, hck, hle, by rw [hL]; simp, ho, hi', hanc, hancOf⟩
    rcases List.mem_append.1 hic with hic | hic
    · exact stepQuiet (G := fun L a w => (∃ pre r b, InvT P l.toArray Q S ord pre r L a b w ∧ (r = [] ∨ ∃ p r'', r = p :: r'' ∧ 2 ≤ p.2)) ∧ (∀ j o, l[j]? = some o → L.getD j false = true → ∀ e ∈ o.after, Region.binds .any e = true → L.getD e.on false = true)) hW hI hr hic fun v hv => ⟨⟨pre, r, b, hv, hr⟩, hcl'⟩
    · rcases hr with rfl | ⟨p, r', rfl, hp2⟩
      · cases hic
      have hpi : p.1 = i := by
        rcases List.mem_cons.1 hic with rfl | hic
        · rfl
        · exfalso
          have hck' := hck
          rw [hI.split] at hck'
          obtain ⟨o3, ho3, -, hlate, -⟩ := chkPairs_spec hck'
          obtain ⟨oq', hoq', hpr⟩ := hlate _ hic
          have := hanc p.1 ((pairT_spec hpr).chain hp2 (by
            rintro e
            rw [e] at ho3
            simp at ho3))
          rw [hI.todo p (by simp)] at this; cases this
      obtain ⟨p1, p2⟩ := p
      dsimp only at hpi hp2
      subst hpi
      exact stepNext (G := fun L a w => (∃ pre r b, InvT P l.toArray Q S ord pre r L a b w ∧ (r = [] ∨ ∃ p r'', r = p :: r'' ∧ 2 ≤ p.2)) ∧ (∀ j o, l[j]? = some o → L.getD j false = true → ∀ e ∈ o.after, Region.binds .any e = true → L.getD e.on false = true)) hW hI hp2 hQ fun a' w' h => ⟨h, hcl'⟩
  · rintro L a w hL hall ⟨⟨pre, r, b, hI, hr⟩, -⟩
    exact stepEnd hck hall hI
end
section
variable {S : World → Prop} {r : List (Nat × Nat)} {a : Act} {w : World} {i : Nat} {o : Oper} {v : Value}
theorem wpT_nil (h : Q .normal a w) : wpT P ops Q S [] a w := h
theorem wpT_pure (ho : ops[i]? = some o) (hw : Region.wanted o (yielded ops a.tmps) = true) (hv : ∀ w', (execOp a.eval o).run P w' = .ok (.value v) w') (h : wpT P ops Q S r (a.put o.dst v) w) : wpT P ops Q S ((i, 0) :: r) a w := by
  unfold wpT; rw [ho]; dsimp only; rw [if_pos hw]; exact ⟨v, fun w' => .inl (hv w'), h⟩
theorem wpT_read (ho : ops[i]? = some o) (hw : Region.wanted o (yielded ops a.tmps) = true) (hv : ∀ w', S w' → (execOp a.eval o).run P w' = .ok (.value v) w') (h : wpT P ops Q S r (a.put o.dst v) w) : wpT P ops Q S ((i, 1) :: r) a w := by
  unfold wpT; rw [ho]; dsimp only; rw [if_pos hw]; exact ⟨v, fun w' hS => .inl (hv w' hS), h⟩
theorem wpT_call {d : Option Tmp} {f : FuncId} {args : Array Value} (ho : ops[i]? = some o) (hd : o.dst = d) (hw : Region.wanted o (yielded ops a.tmps) = true) (hx : ∀ w', (execOp a.eval o).run P w' = .ok (.enter f args) w') (hc : ∀ w', Calls P f args w' fun e w'' => e = .returned v ∧ w'' = w') (h : wpT P ops Q S r (a.put d v) w) : wpT P ops Q S ((i, 0) :: r) a w := by
  subst hd; unfold wpT; rw [ho]; dsimp only; rw [if_pos hw]; exact ⟨v, fun w' => .inr ⟨f, args, hx w', hc w'⟩, h⟩
theorem wpT_callS {d : Option Tmp} {f : FuncId} {args : Array Value} (ho : ops[i]? = some o) (hd : o.dst = d) (hw : Region.wanted o (yielded ops a.tmps) = true) (hx : ∀ w', (execOp a.eval o).run P w' = .ok (.enter f args) w') (hc : ∀ w', S w' → Calls P f args w' fun e w'' => e = .returned v ∧ w'' = w') (h : wpT P ops Q S r (a.put d v) w) : wpT P ops Q S ((i, 1) :: r) a w := by
  subst hd; unfold wpT; rw [ho]; dsimp only; rw [if_pos hw]; exact ⟨v, fun w' hS => .inr ⟨f, args, hx w', hc w' hS⟩, h⟩
theorem wpT_skip {c : Nat} (ho : ops[i]? = some o) (hw : Region.wanted o (yielded ops a.tmps) = false) (h : wpT P ops Q S r (a.put o.dst undef) w) : wpT P ops Q S ((i, c) :: r) a w := by
  unfold wpT; rw [ho]; dsimp only; rw [if_neg (by rw [hw]; decide)]; exact h
theorem letsOut_then {K : Act → World → Prop} (h : LetsOut (Exit.then K Q)) : LetsOut Q := h
theorem oper_wp_then {K K' : Act → World → Prop} (hk : ∀ a w, K a w → K' a w) (h : o.wp P a w (wpList P ops (Exit.then K Q) []) (Exit.then K Q)) : o.wp P a w K' Q := by
  unfold Oper.wp at h ⊢
  generalize (execOp a.eval o).run P w = x at *
  cases x with
  | ok n w' =>
    cases n <;> simp only [Oper.upon] at h ⊢ <;>
      first
        | exact hk _ _ h
        | exact Calls.mono h (fun e w'' he => by cases e <;> first | exact hk _ _ he | exact he)
        | exact Rows.mono h (fun _ _ he => hk _ _ he)
  | halt x w' => cases x <;> simp only [Oper.upon] at h ⊢ <;> exact h
theorem wpT_eff (ho : ops[i]? = some o) (hw : Region.wanted o (yielded ops a.tmps) = true)
    (h : ∀ K : Act → World → Prop, (∀ a' w', S w' → wpT P ops Q S r a' w' → K a' w') → wpList P ops (Exit.then K Q) [o] a w) : wpT P ops Q S ((i, 2) :: r) a w := by
  unfold wpT; rw [ho]; dsimp only; rw [if_pos hw]
  have := h (fun a' w' => S w' ∧ wpT P ops Q S r a' w') (fun _ _ h1 h2 => ⟨h1, h2⟩)
  unfold wpList at this
  rw [if_pos hw] at this
  exact this.imp (oper_wp_then fun _ _ h => h) id
theorem wpT_brk (ho : ops[i]? = some o) (hw : Region.wanted o (yielded ops a.tmps) = true)
    (h : ∀ K : Act → World → Prop, (∀ a' w', wpT P ops Q S r a' w' → K a' w') → wpList P ops (Exit.then K Q) [o] a w) : wpT P ops Q S ((i, 3) :: r) a w := by
  unfold wpT; rw [ho]; dsimp only; rw [if_pos hw]
  have := h (fun a' w' => wpT P ops Q S r a' w') (fun _ _ h => h)
  unfold wpList at this
  rw [if_pos hw] at this
  exact this.imp (oper_wp_then fun _ _ h => h) id
end
end
/-- Q, but False at a panic -/
def calmQ (Q : Exit → Act → World → Prop) : Exit → Act → World → Prop
  | .panic _, _, _ => False
  | e, a, w => Q e a w
theorem wp_region_C {P : Program} {Q : Exit → Act → World → Prop} {l : List Oper} {id : Nat} {a : Act} {w : World} (S : World → Prop) (ord : List (Nat × Nat)) (hm : P.follows .mixedOrders = true) (hc : chkT l ord = true)
    (hS : S w.drew) (h : wpT P l.toArray (calmQ Q) S ord a w.drew) : (Code.region id l.toArray true).wp P Q a w :=
  Code.wp_mono (fun e a w h => by cases e <;> first | exact h | exact h.elim) (wp_region_T S ord hm hc (fun _ _ _ _ h => h.elim) hS h)
theorem wpT_end {P : Program} {Q : Exit → Act → World → Prop} {ops : Array Oper} {a : Act} {w : World} {S : World → Prop} (h : Q .normal a w) : wpT P ops (calmQ Q) S [] a w := h
theorem wpT_pureD {P : Program} {Q : Exit → Act → World → Prop} {ops : Array Oper} {S : World → Prop} {r : List (Nat × Nat)} {a : Act} {w : World} {i : Nat} {o : Oper} {v : Value} (d : Option Tmp) (ho : ops[i]? = some o) (hd : o.dst = d) (hw : Region.wanted o (yielded ops a.tmps) = true)
    (hv : ∀ w', (execOp a.eval o).run P w' = .ok (.value v) w') (h : wpT P ops Q S r (a.put d v) w) : wpT P ops Q S ((i, 0) :: r) a w := by subst hd; exact wpT_pure ho hw hv h
theorem wpT_readD {P : Program} {Q : Exit → Act → World → Prop} {ops : Array Oper} {S : World → Prop} {r : List (Nat × Nat)} {a : Act} {w : World} {i : Nat} {o : Oper} {v : Value} (d : Option Tmp) (ho : ops[i]? = some o) (hd : o.dst = d) (hw : Region.wanted o (yielded ops a.tmps) = true)
    (hv : ∀ w', S w' → (execOp a.eval o).run P w' = .ok (.value v) w') (h : wpT P ops Q S r (a.put d v) w) : wpT P ops Q S ((i, 1) :: r) a w := by subst hd; exact wpT_read ho hw hv h
end Go
