/- Proved here: lemmas and contracts (Reg) for the laws of this seat, for all values of the stated types; no further condition. -/
import Derived.Test.YtjbplncpcgfaoaaRow
import Derived.Orders
namespace Go
open Go.RowKit
section
variable {P : Program} {ops : Array Oper} {Q : Exit → Act → World → Prop}
/-- every binding edge leads to an earlier operation -/
def backEdges (ops : Array Oper) : Bool := ops.toList.zipIdx.all fun (o, i) => o.after.toList.all fun e => !Region.binds .any e || decide (e.on < i)
theorem backEdges_spec (h : backEdges ops = true) {i : Nat} {o : Oper} (ho : ops[i]? = some o) {e : Edge} (he : e ∈ o.after) (hb : Region.binds .any e = true) : e.on < i := by
  have hm : (o, i) ∈ ops.toList.zipIdx := by
    rw [List.mem_zipIdx_iff_getElem?]; simpa using ho
  have h1 := List.all_eq_true.1 h _ hm
  have h2 := List.all_eq_true.1 h1 e (by simpa using he)
  simpa [hb] using h2
/-- an invariant over the set of operations that have run -/
theorem wpAny_inv (hb : backEdges ops = true) (I : Array Bool → Act → World → Prop)
    (hs : ∀ (S : Array Bool) (i : Nat) (o : Oper) a w, ops[i]? = some o → S.size = ops.size → S.getD i true = false →
      (∀ e ∈ o.after, Region.binds .any e = true → S.getD e.on false = true) → I S a w → wpOp P ops Q i (I (S.setIfInBounds i true)) a w)
    (he : ∀ S a w, S.size = ops.size → (∀ i, i < ops.size → S.getD i false = true) → I S a w → Q .normal a w) :
    ∀ (fuel : Nat) (S : Array Bool) a w, S.size = ops.size → I S a w → (S.toList.filter (! ·)).length ≤ fuel → wpAny P .any ops Q fuel S a w := by
  have hempty : ∀ (S : Array Bool), S.size = ops.size → Region.ready .any ops S = [] → ∀ i, i < ops.size → S.getD i false = true := by
    intro S hS hr i
    induction i using Nat.strongRecOn with
    | _ i ih =>
      intro hi
      cases hg : S.getD i false with
      | true => rfl
      | false =>
        exfalso
        have hmem : i ∈ Region.ready .any ops S := by
          rw [mem_ready]
          refine ⟨?_, ops[i], by simp [hi], ?_⟩
          · have : i < S.size := by omega
            simp [this] at hg ⊢; exact hg
          · intro e hem hbd
            exact ih e.on (backEdges_spec hb (by simp [hi]) hem hbd) (Nat.lt_trans (backEdges_spec hb (by simp [hi]) hem hbd) hi)
        rw [hr] at hmem; cases hmem
  intro fuel
  induction fuel with
  | zero =>
    intro S a w hS hI hl
    have hall : ∀ i, i < ops.size → S.getD i false = true := by
      intro i hi
      have hi' : i < S.size := by omega
      have : S.toList.filter (! ·) = [] := List.length_eq_zero_iff.1 (by omega)
      rw [List.filter_eq_nil_iff] at this
      have := this S[i] (by simp)
      simp [hi']; simpa using this
    have hr : Region.ready .any ops S = [] := by
      cases hr : Region.ready .any ops S with
      | nil => rfl
      | cons x xs =>
        exfalso
        have hx : x ∈ Region.ready .any ops S := by rw [hr]; simp
        obtain ⟨h1, o, ho, _⟩ := mem_ready.1 hx
        have hlt : x < ops.size := (Array.getElem?_eq_some_iff.1 ho).1
        have := hall x hlt
        have hx' : x < S.size := by omega
        simp [hx'] at this h1
        rw [this] at h1; cases h1
    exact ⟨hr, he S a w hS hall hI⟩
  | succ fuel ih =>
    intro S a w hS hI hl
    refine ⟨fun hr => he S a w hS (hempty S hS hr) hI, fun i hi => ?_⟩
    obtain ⟨h1, o, ho, h2⟩ := mem_ready.1 hi
    have hlt : i < ops.size := (Array.getElem?_eq_some_iff.1 ho).1
    have hlt' : i < S.size := by omega
    refine wpOp_mono (fun a' w' h => ih _ a' w' (by simpa using hS) h ?_) (hs S i o a w ho hS h1 h2 hI)
    have hSi : S[i] = false := by simpa [hlt'] using h1
    have key : ∀ (l : List Bool) (i : Nat) (h : i < l.length), l[i] = false → ((l.set i true).filter (! ·)).length + 1 = (l.filter (! ·)).length := by
      intro l
      induction l with
      | nil => intro i h; simp at h
      | cons x l ih =>
        intro i h hx
        cases i with
        | zero => simp at hx; subst hx; simp
        | succ i =>
          have := ih i (by simpa using h) (by simpa using hx)
          cases x <;> simp <;> simpa using this
    have := key S.toList i (by simpa using hlt') (by simpa using hSi)
    rw [Array.toList_setIfInBounds]
    omega
theorem wp_region_inv {id : Nat} {a : Act} {w : World} (hm : P.follows .mixedOrders = true) (hb : backEdges ops = true) (I : Array Bool → Act → World → Prop)
    (h0 : I (Array.replicate ops.size false) a w.drew)
    (hs : ∀ (S : Array Bool) (i : Nat) (o : Oper) a w, ops[i]? = some o → S.size = ops.size → S.getD i true = false →
      (∀ e ∈ o.after, Region.binds .any e = true → S.getD e.on false = true) → I S a w → wpOp P ops Q i (I (S.setIfInBounds i true)) a w)
    (he : ∀ S a w, S.size = ops.size → (∀ i, i < ops.size → S.getD i false = true) → I S a w → Q .normal a w) : (Code.region id ops true).wp P Q a w :=
  wp_region_any hm (wpAny_inv hb I hs he _ _ _ _ (by simp) h0 (by simp))
/-- one more has run -/
def upd (S : Nat → Bool) (i : Nat) : Nat → Bool := fun j => j == i || S j
/-- the operations that must have run before o -/
def predsOf (o : Oper) (S : Nat → Bool) : Bool := o.after.toList.all fun e => !Region.binds .any e || S e.on
/-- each operation, in the text's order, keeps the invariant -/
def RegSteps (P : Program) (Q : Exit → Act → World → Prop) (ops : Array Oper) (I : (Nat → Bool) → Act → World → Prop) : Nat → List Oper → Prop
  | _, [] => True
  | i, o :: l => (∀ S a w, S i = false → predsOf o S = true → I S a w → ∀ K : Act → World → Prop, (∀ a w, I (upd S i) a w → K a w) →
      if Region.wanted o (yielded ops a.tmps) then o.wp P a w K Q else K (a.put o.dst undef) w) ∧ RegSteps P Q ops I (i + 1) l
theorem RegSteps.get {I : (Nat → Bool) → Act → World → Prop} : ∀ (l : List Oper) (s : Nat), RegSteps P Q ops I s l → ∀ i o, l[i]? = some o →
    ∀ S a w, S (s + i) = false → predsOf o S = true → I S a w → if Region.wanted o (yielded ops a.tmps) then o.wp P a w (I (upd S (s + i))) Q else I (upd S (s + i)) (a.put o.dst undef) w
  | [], _, _, i, o, ho => by simp at ho
  | x :: l, s, h, i, o, ho => by
    cases i with
    | zero => simp at ho; subst ho; exact fun S a w h1 h2 h3 => h.1 S a w h1 h2 h3 _ (fun _ _ h => h)
    | succ i =>
      have := RegSteps.get l (s + 1) h.2 i o (by simpa using ho)
      rwa [show s + 1 + i = s + (i + 1) from by omega] at this
theorem wp_region_steps {id : Nat} {a : Act} {w : World} {l : List Oper} (I : (Nat → Bool) → Act → World → Prop) (hm : P.follows .mixedOrders = true) (hb : backEdges l.toArray = true)
    (h0 : I (fun _ => false) a w.drew) (hs : RegSteps P Q l.toArray I 0 l) (he : ∀ a w, I (fun j => decide (j < l.length)) a w → Q .normal a w) : (Code.region id l.toArray true).wp P Q a w := by
  have hext : ∀ S S' a w, (∀ j, S j = S' j) → I S a w → I S' a w := fun S S' a w h hI => by rwa [show S' = S from (funext h).symm]
  refine wp_region_inv hm hb (fun S a w => I (fun j => S.getD j false) a w) ?_ ?_ ?_
  · refine hext _ _ _ _ (fun j => ?_) h0
    by_cases hj : j < l.length <;> simp [hj]
  · intro S i o a w ho hS hi hp hI
    have hlt : i < l.toArray.size := (Array.getElem?_eq_some_iff.1 ho).1
    have hlt' : i < S.size := by omega
    have ho' : l[i]? = some o := by simpa using ho
    have h1 := RegSteps.get l 0 hs i o ho' (fun j => S.getD j false) a w (by simp [hlt'] at hi ⊢; exact hi) (by
      unfold predsOf
      rw [List.all_eq_true]
      intro e he
      cases hbd : Region.binds .any e with
      | false => rfl
      | true => simpa using hp e (by simpa using he) hbd) hI
    have hset : ∀ a' w', I (upd (fun j => S.getD j false) (0 + i)) a' w' → I (fun j => (S.setIfInBounds i true).getD j false) a' w' := fun a' w' h => hext _ _ _ _ (fun j => by
      unfold upd
      simp only [Nat.zero_add]
      by_cases hj : j = i
      · subst hj; simp [hlt']
      · rw [getD_set_ne false (fun e => hj e.symm)]; simp [hj]) h
    unfold wpOp
    rw [ho]
    dsimp only
    split
    · rename_i hw
      rw [if_pos hw] at h1
      exact .inl (Oper.wp_mono hset h1)
    · rename_i hw
      rw [if_neg hw] at h1
      exact hset _ _ h1
  · intro S a w hS hall hI
    refine he a w (hext _ _ _ _ (fun j => ?_) hI)
    by_cases hj : j < l.length
    · rw [hall j (by simpa using hj)]; simp [hj]
    · simp [hj, show ¬ j < S.size by simp at hS; omega]
/-- the operations that must have run before o, as numbers -/
def predL (o : Oper) : List Nat := ((o.after.toList.filter (Region.binds .any)).map (·.on)).eraseDups
def conjS (S : Nat → Bool) : List Nat → Prop
  | [] => True
  | [j] => S j = true
  | j :: l => S j = true ∧ conjS S l
theorem conjS_of {S : Nat → Bool} : ∀ (l : List Nat), (∀ j ∈ l, S j = true) → conjS S l
  | [], _ => trivial
  | [j], h => h j (by simp)
  | j :: k :: l, h => ⟨h j (by simp), conjS_of (k :: l) (fun i hi => h i (by simp [hi]))⟩
theorem preds_conj {o : Oper} {S : Nat → Bool} (h : predsOf o S = true) {l : List Nat} (hl : predL o = l) : conjS S l := by
  refine conjS_of l fun j hj => ?_
  rw [← hl, predL, List.mem_eraseDups, List.mem_map] at hj
  obtain ⟨e, he, rfl⟩ := hj
  rw [List.mem_filter] at he
  have := List.all_eq_true.1 h e he.1
  simpa [he.2] using this
@[simp] theorem upd_self (S : Nat → Bool) (i : Nat) : upd S i i = true := by simp [upd]
end
end Go
