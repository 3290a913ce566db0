/- Proved here: lemmas and contracts (Reg) for the laws of this seat, for all values of the stated types; no further condition. -/
import Derived.Test.YtjiiojbenbldlaaRow
import Derived.KernelRfl
import Derived.Test.YtjiiojbenbldlaaProg
import Derived.Orders
open Go Go.RowKit
namespace Go.Proofs.L
/-- memory's size -/
@[irreducible] def RS : Nat := 65536
theorem RS_eq : RS = 65536 := by unfold RS; rfl
/-- memory's cells, by a function of the place -/
def memL (f : Nat → Nat) : List Int := (List.range RS).map fun i => (f i : Int)
def mem (f : Nat → Nat) : Array Value := cellsK .u8 (memL f)
theorem memL_len (f) : (memL f).length = 65536 := by simp [memL, RS_eq]
theorem mem_size (f) : (mem f).size = 65536 := by rw [mem, cellsK_size, memL_len]
theorem mem_all (f) : allOne (mem f) = true := cellsK_all _ _
theorem memL_get (f : Nat → Nat) (i : Nat) (h : i < 65536) : at' (memL f) i = (f i : Int) := by simp [at', memL, RS_eq, h]
theorem mem_row {w : World} {b : Nat} {f : Nat → Nat} (h : w.row? b = some (mem f)) (i : Nat) (hi : i < 65536) : w.cell? ⟨b, i, none⟩ = some (.int .u8 (f i : Int)) := by
  rw [row_int h i (by rw [memL_len]; exact hi), memL_get f i hi]
/-- one byte changed -/
def up (f : Nat → Nat) (i v : Nat) : Nat → Nat := fun j => if j = i then v else f j
theorem mem_set (f : Nat → Nat) (i v : Nat) : (mem f).setIfInBounds i (.int .u8 (v : Int)) = mem (up f i v) := by
  rw [mem, cellsK_set, mem]
  congr 1
  apply List.ext_getElem
  · simp [memL]
  · intro j h1 h2
    rw [List.getElem_set]
    simp only [memL, List.getElem_map, List.getElem_range, up]
    by_cases h : i = j
    · subst h; simp
    · rw [if_neg h, if_neg (fun e => h e.symm)]
theorem mem_ext {f g : Nat → Nat} (h : ∀ i, i < 65536 → f i = g i) : mem f = mem g := by
  unfold mem memL; congr 1
  apply List.map_congr_left
  intro i hi
  rw [h i (by have := List.mem_range.1 hi; rw [RS_eq] at this; exact this)]
/-- what has changed: only the blocks of E, and new ones -/
structure Chg (E : List Nat) (w w' : World) : Prop where
  os : w'.os = w.os
  tape : w'.tape = w.tape
  output : w'.output = w.output
  size : w.heap.size ≤ w'.heap.size
  block : ∀ k, k < w.heap.size → k ∉ E → w'.heap[k]? = w.heap[k]?
theorem Chg.refl (E w) : Chg E w w := ⟨rfl, rfl, rfl, Nat.le_refl _, fun _ _ _ => rfl⟩
theorem Chg.trans {E a b c} (h : Chg E a b) (k : Chg E b c) : Chg E a c :=
  ⟨k.os.trans h.os, k.tape.trans h.tape, k.output.trans h.output, Nat.le_trans h.size k.size, fun i hi hE => (k.block i (Nat.lt_of_lt_of_le hi h.size) hE).trans (h.block i hi hE)⟩
theorem Chg.drew {E a w} (h : Chg E a w) : Chg E a w.drew := ⟨h.os, h.tape, h.output, h.size, h.block⟩
theorem Chg.drewN {E a w} (h : Chg E a w) (n : Nat) : Chg E a (w.drewN n) := ⟨h.os, h.tape, h.output, h.size, h.block⟩
theorem Chg.alloc {E a w} (h : Chg E a w) (o : Obj) : Chg E a (w.alloc o) :=
  h.trans ⟨rfl, rfl, rfl, by simp, fun k hk _ => Below.heap_alloc _ _ _ hk⟩
theorem Chg.setCell {E a w} (h : Chg E a w) {p : Addr} (hp : p.block ∈ E ∨ a.heap.size ≤ p.block) (v : Value) : Chg E a (w.setCell p v) :=
  ⟨h.os, h.tape, h.output, by simpa [World.setCell] using h.size, fun k hk hE => (Below.heap_setCell w p v k (by rintro rfl; rcases hp with hp | hp; exact hE hp; omega)).trans (h.block k hk hE)⟩
theorem Chg.setRow {E a w} (h : Chg E a w) {g : Nat} (hp : g ∈ E ∨ a.heap.size ≤ g) (cs : Array Value) : Chg E a (w.setRow g cs) :=
  ⟨h.os, h.tape, h.output, by simpa [World.setRow] using h.size, fun k hk hE => (setRow_other w g k cs (by rintro rfl; rcases hp with hp | hp; exact hE hp; omega)).trans (h.block k hk hE)⟩
theorem Chg.below {E a b n} (h : Chg E a b) (hE : ∀ k ∈ E, n ≤ k) (hn : n ≤ a.heap.size) : Below n a b :=
  ⟨h.os, h.tape, h.output, h.size, fun k hk => h.block k (by omega) (fun hm => by have := hE k hm; omega)⟩
theorem Below.chg {a b : World} (h : Below a.heap.size a b) (E) : Chg E a b := ⟨h.os, h.tape, h.output, h.size, fun k hk _ => h.block k hk⟩
theorem Chg.row {E w w'} (h : Chg E w w') {b : Nat} (hb : b < w.heap.size) (hE : b ∉ E) : w'.row? b = w.row? b := by
  unfold World.row?; rw [h.block b hb hE]
theorem RowsOf.keepC {E : List Nat} {W w : World} (h : Chg E W w) : ∀ {l : List (Nat × Array Value)}, (∀ x ∈ l, x.1 ∉ E) → RowsOf W l → RowsOf w l
  | [], _, _ => trivial
  | x :: l, hE, h1 => ⟨⟨(h.row h1.1.2 (hE x (by simp))).trans h1.1.1, Nat.lt_of_lt_of_le h1.1.2 h.size⟩, RowsOf.keepC h (fun y hy => hE y (by simp [hy])) h1.2⟩
/-- do n bytes from 'at' on lie in memory? -/
def inRam (a n : Nat) : Bool := decide (2147483648 ≤ a ∧ a + n ≤ 2147549184)
/-- n bytes as a number, the lowest first -/
def leN (f : Nat → Nat) (o : Nat) : Nat → Nat
  | 0 => 0
  | n + 1 => leN f o n + f (o + n) * 2 ^ (8 * n)
/-- n bytes of x stored -/
def stN (f : Nat → Nat) (o : Nat) (x : Nat) : Nat → (Nat → Nat)
  | 0 => f
  | n + 1 => up (stN f o x n) (o + n) (x / 2 ^ (8 * n) % 256)
theorem leN_lt (f : Nat → Nat) (hf : ∀ i, f i < 256) (o : Nat) : ∀ n, leN f o n < 2 ^ (8 * n)
  | 0 => by simp [leN]
  | n + 1 => by
    have h1 := leN_lt f hf o n
    have h2 := hf (o + n)
    have h3 : f (o + n) * 2 ^ (8 * n) ≤ 255 * 2 ^ (8 * n) := Nat.mul_le_mul_right _ (by omega)
    rw [show 8 * (n + 1) = 8 * n + 8 from by omega, Nat.pow_add]
    simp only [leN]
    generalize 2 ^ (8 * n) = p at *
    omega
theorem stN_get (f : Nat → Nat) (o x : Nat) : ∀ n i, stN f o x n i = if o ≤ i ∧ i < o + n then x / 2 ^ (8 * (i - o)) % 256 else f i
  | 0, i => by rw [if_neg (by omega)]; rfl
  | n + 1, i => by
    simp only [stN, up]
    split
    · rename_i h; subst h; rw [if_pos (by omega), show o + n - o = n from by omega]
    · rw [stN_get f o x n i]
      by_cases h : o ≤ i ∧ i < o + n
      · rw [if_pos h, if_pos (by omega)]
      · rw [if_neg h, if_neg (by omega)]
theorem stN_lt (f : Nat → Nat) (hf : ∀ i, f i < 256) (o x n i : Nat) : stN f o x n i < 256 := by
  rw [stN_get]; split
  · exact Nat.mod_lt _ (by decide)
  · exact hf i
theorem u32_id {n : Nat} (h : n < 4294967296) : IntKind.u32.wrap (n : Int) = n := by
  simp [IntKind.wrap, IntKind.bits, IntKind.signed]; omega
theorem or_le32 (x c n : Nat) (hx : x < 2 ^ (8 * n)) (hc : c < 256) (hn : n < 4) : bits .or .u32 (x : Int) ((c * 2 ^ (8 * n) : Nat) : Int) = ((x + c * 2 ^ (8 * n) : Nat) : Int) := by
  have hb : c * 2 ^ (8 * n) + x < 4294967296 := by
    have hs : n = 0 ∨ n = 1 ∨ n = 2 ∨ n = 3 := by omega
    rcases hs with rfl | rfl | rfl | rfl <;> simp at * <;> omega
  show IntKind.u32.wrap ((BitVec.ofInt 32 (x : Int) ||| BitVec.ofInt 32 ((c * 2 ^ (8 * n) : Nat) : Int)).toNat : Int) = _
  have h1 : (BitVec.ofInt 32 (x : Int)).toNat = x := by rw [BitVec.ofInt_natCast, BitVec.toNat_ofNat]; exact Nat.mod_eq_of_lt (by omega)
  have h2 : (BitVec.ofInt 32 ((c * 2 ^ (8 * n) : Nat) : Int)).toNat = c * 2 ^ (8 * n) := by rw [BitVec.ofInt_natCast, BitVec.toNat_ofNat]; exact Nat.mod_eq_of_lt (by omega)
  have h3 : x ||| c * 2 ^ (8 * n) = x + c * 2 ^ (8 * n) := by
    have := Nat.two_pow_add_eq_or_of_lt hx c
    rw [Nat.or_comm, Nat.mul_comm c, ← this]; omega
  rw [BitVec.toNat_or, h1, h2, h3]
  exact u32_id (by omega)
end Go.Proofs.L

open Go Go.RowKit
namespace Go.Proofs.L
/-- the zero bytes, as the table has them: a tree of lists of 64 -/
def zT : Nat → List Value
  | 0 => [Value.int .u8 0, Value.int .u8 0, Value.int .u8 0, Value.int .u8 0, Value.int .u8 0, Value.int .u8 0, Value.int .u8 0, Value.int .u8 0, Value.int .u8 0, Value.int .u8 0, Value.int .u8 0, Value.int .u8 0, Value.int .u8 0, Value.int .u8 0, Value.int .u8 0, Value.int .u8 0, Value.int .u8 0, Value.int .u8 0, Value.int .u8 0, Value.int .u8 0, Value.int .u8 0, Value.int .u8 0, Value.int .u8 0, Value.int .u8 0, Value.int .u8 0, Value.int .u8 0, Value.int .u8 0, Value.int .u8 0, Value.int .u8 0, Value.int .u8 0, Value.int .u8 0, Value.int .u8 0, Value.int .u8 0, Value.int .u8 0, Value.int .u8 0, Value.int .u8 0, Value.int .u8 0, Value.int .u8 0, Value.int .u8 0, Value.int .u8 0, Value.int .u8 0, Value.int .u8 0, Value.int .u8 0, Value.int .u8 0, Value.int .u8 0, Value.int .u8 0, Value.int .u8 0, Value.int .u8 0, Value.int .u8 0, Value.int .u8 0, Value.int .u8 0, Value.int .u8 0, Value.int .u8 0, Value.int .u8 0, Value.int .u8 0, Value.int .u8 0, Value.int .u8 0, Value.int .u8 0, Value.int .u8 0, Value.int .u8 0, Value.int .u8 0, Value.int .u8 0, Value.int .u8 0, Value.int .u8 0]
  | n + 1 => (zT n).append (zT n)
theorem zT_eq : ∀ n, zT n = List.replicate (64 * 2 ^ n) (Value.int .u8 0)
  | 0 => rfl
  | n + 1 => by
    show zT n ++ zT n = _
    rw [zT_eq n, List.replicate_append_replicate, Nat.pow_succ]
    congr 1; omega
theorem tMz : Try.t73.zero = some (.agg (zT 10).toArray) := by rfl
theorem zT10 : (zT 10).toArray = mem fun _ => 0 := by
  have h : (List.range RS).map (fun _ => Value.int .u8 ((0 : Nat) : Int)) = List.replicate RS (Value.int .u8 0) := by
    rw [List.map_const', List.length_range]; rfl
  rw [zT_eq, mem, cellsK, memL, List.map_map]
  show _ = ((List.range RS).map (fun _ => Value.int .u8 ((0 : Nat) : Int))).toArray
  rw [h, RS_eq, show 64 * 2 ^ 10 = 65536 from rfl]
theorem iM : Try.prog.info? 73 = some Try.t73 := by rfl
theorem zM (w : World) : (zeroValue 73).run Try.prog w = .ok (.agg (mem fun _ => 0)) w := by
  unfold zeroValue typeInfo
  simp only [Sem.run_bind, run_program, iM, Result.andThen_ok, Sem.run_pure, tMz, zT10]
end Go.Proofs.L

namespace Go
open Go.RowKit
section
variable {P : Program} {ops : Array Oper} {Q : Exit → Act → World → Prop}
/-- every binding edge leads to an earlier operation -/
def backEdges (ops : Array Oper) : Bool := ops.toList.zipIdx.all fun (o, i) => o.after.toList.all fun e => !Region.binds .any e || decide (e.on < i)
theorem backEdges_spec (h : backEdges ops = true) {i : Nat} {o : Oper} (ho : ops[i]? = some o) {e : Edge} (he : e ∈ o.after) (hb : Region.binds .any e = true) : e.on < i := by
  have hm : (o, i) ∈ ops.toList.zipIdx := by
    rw [List.mem_zipIdx_iff_getElem?]; simpa using ho
  have h1 := List.all_eq_true.1 h _ hm
  have h2 := List.all_eq_true.1 h1 e (by simpa using he)
  simpa [hb] using h2
/-- an invariant over the set of operations that have run -/
theorem wpAny_inv (hb : backEdges ops = true) (I : Array Bool → Act → World → Prop)
    (hs : ∀ (S : Array Bool) (i : Nat) (o : Oper) a w, ops[i]? = some o → S.size = ops.size → S.getD i true = false →
      (∀ e ∈ o.after, Region.binds .any e = true → S.getD e.on false = true) → I S a w → wpOp P ops Q i (I (S.setIfInBounds i true)) a w)
    (he : ∀ S a w, S.size = ops.size → (∀ i, i < ops.size → S.getD i false = true) → I S a w → Q .normal a w) :
    ∀ (fuel : Nat) (S : Array Bool) a w, S.size = ops.size → I S a w → (S.toList.filter (! ·)).length ≤ fuel → wpAny P .any ops Q fuel S a w := by
  have hempty : ∀ (S : Array Bool), S.size = ops.size → Region.ready .any ops S = [] → ∀ i, i < ops.size → S.getD i false = true := by
    intro S hS hr i
    induction i using Nat.strongRecOn with
    | _ i ih =>
      intro hi
      cases hg : S.getD i false with
      | true => rfl
      | false =>
        exfalso
        have hmem : i ∈ Region.ready .any ops S := by
          rw [mem_ready]
          refine ⟨?_, ops[i], by simp [hi], ?_⟩
          · have : i < S.size := by omega
            simp [this] at hg ⊢; exact hg
          · intro e hem hbd
            exact ih e.on (backEdges_spec hb (by simp [hi]) hem hbd) (Nat.lt_trans (backEdges_spec hb (by simp [hi]) hem hbd) hi)
        rw [hr] at hmem; cases hmem
  intro fuel
  induction fuel with
  | zero =>
    intro S a w hS hI hl
    have hall : ∀ i, i < ops.size → S.getD i false = true := by
      intro i hi
      have hi' : i < S.size := by omega
      have : S.toList.filter (! ·) = [] := List.length_eq_zero_iff.1 (by omega)
      rw [List.filter_eq_nil_iff] at this
      have := this S[i] (by simp)
      simp [hi']; simpa using this
    have hr : Region.ready .any ops S = [] := by
      cases hr : Region.ready .any ops S with
      | nil => rfl
      | cons x xs =>
        exfalso
        have hx : x ∈ Region.ready .any ops S := by rw [hr]; simp
        obtain ⟨h1, o, ho, _⟩ := mem_ready.1 hx
        have hlt : x < ops.size := (Array.getElem?_eq_some_iff.1 ho).1
        have := hall x hlt
        have hx' : x < S.size := by omega
        simp [hx'] at this h1
        rw [this] at h1; cases h1
    exact ⟨hr, he S a w hS hall hI⟩
  | succ fuel ih =>
    intro S a w hS hI hl
    refine ⟨fun hr => he S a w hS (hempty S hS hr) hI, fun i hi => ?_⟩
    obtain ⟨h1, o, ho, h2⟩ := mem_ready.1 hi
    have hlt : i < ops.size := (Array.getElem?_eq_some_iff.1 ho).1
    have hlt' : i < S.size := by omega
    refine wpOp_mono (fun a' w' h => ih _ a' w' (by simpa using hS) h ?_) (hs S i o a w ho hS h1 h2 hI)
    have hSi : S[i] = false := by simpa [hlt'] using h1
    have key : ∀ (l : List Bool) (i : Nat) (h : i < l.length), l[i] = false → ((l.set i true).filter (! ·)).length + 1 = (l.filter (! ·)).length := by
      intro l
      induction l with
      | nil => intro i h; simp at h
      | cons x l ih =>
        intro i h hx
        cases i with
        | zero => simp at hx; subst hx; simp
        | succ i =>
          have := ih i (by simpa using h) (by simpa using hx)
          cases x <;> simp <;> simpa using this
    have := key S.toList i (by simpa using hlt') (by simpa using hSi)
    rw [Array.toList_setIfInBounds]
    omega
theorem wp_region_inv {id : Nat} {a : Act} {w : World} (hm : P.follows .mixedOrders = true) (hb : backEdges ops = true) (I : Array Bool → Act → World → Prop)
    (h0 : I (Array.replicate ops.size false) a w.drew)
    (hs : ∀ (S : Array Bool) (i : Nat) (o : Oper) a w, ops[i]? = some o → S.size = ops.size → S.getD i true = false →
      (∀ e ∈ o.after, Region.binds .any e = true → S.getD e.on false = true) → I S a w → wpOp P ops Q i (I (S.setIfInBounds i true)) a w)
    (he : ∀ S a w, S.size = ops.size → (∀ i, i < ops.size → S.getD i false = true) → I S a w → Q .normal a w) : (Code.region id ops true).wp P Q a w :=
  wp_region_any hm (wpAny_inv hb I hs he _ _ _ _ (by simp) h0 (by simp))
/-- one more has run -/
def upd (S : Nat → Bool) (i : Nat) : Nat → Bool := fun j => j == i || S j
/-- the operations that must have run before o -/
def predsOf (o : Oper) (S : Nat → Bool) : Bool := o.after.toList.all fun e => !Region.binds .any e || S e.on
/-- each operation, in the text's order, keeps the invariant -/
def RegSteps (P : Program) (Q : Exit → Act → World → Prop) (ops : Array Oper) (I : (Nat → Bool) → Act → World → Prop) : Nat → List Oper → Prop
  | _, [] => True
  | i, o :: l => (∀ S a w, S i = false → predsOf o S = true → I S a w → ∀ K : Act → World → Prop, (∀ a w, I (upd S i) a w → K a w) →
      if Region.wanted o (yielded ops a.tmps) then o.wp P a w K Q else K (a.put o.dst undef) w) ∧ RegSteps P Q ops I (i + 1) l
theorem RegSteps.get {I : (Nat → Bool) → Act → World → Prop} : ∀ (l : List Oper) (s : Nat), RegSteps P Q ops I s l → ∀ i o, l[i]? = some o →
    ∀ S a w, S (s + i) = false → predsOf o S = true → I S a w → if Region.wanted o (yielded ops a.tmps) then o.wp P a w (I (upd S (s + i))) Q else I (upd S (s + i)) (a.put o.dst undef) w
  | [], _, _, i, o, ho => by simp at ho
  | x :: l, s, h, i, o, ho => by
    cases i with
    | zero => simp at ho; subst ho; exact fun S a w h1 h2 h3 => h.1 S a w h1 h2 h3 _ (fun _ _ h => h)
    | succ i =>
      have := RegSteps.get l (s + 1) h.2 i o (by simpa using ho)
      rwa [show s + 1 + i = s + (i + 1) from by omega] at this
theorem wp_region_steps {id : Nat} {a : Act} {w : World} {l : List Oper} (I : (Nat → Bool) → Act → World → Prop) (hm : P.follows .mixedOrders = true) (hb : backEdges l.toArray = true)
    (h0 : I (fun _ => false) a w.drew) (hs : RegSteps P Q l.toArray I 0 l) (he : ∀ a w, I (fun j => decide (j < l.length)) a w → Q .normal a w) : (Code.region id l.toArray true).wp P Q a w := by
  have hext : ∀ S S' a w, (∀ j, S j = S' j) → I S a w → I S' a w := fun S S' a w h hI => by rwa [show S' = S from (funext h).symm]
  refine wp_region_inv hm hb (fun S a w => I (fun j => S.getD j false) a w) ?_ ?_ ?_
  · refine hext _ _ _ _ (fun j => ?_) h0
    by_cases hj : j < l.length <;> simp [hj]
  · intro S i o a w ho hS hi hp hI
    have hlt : i < l.toArray.size := (Array.getElem?_eq_some_iff.1 ho).1
    have hlt' : i < S.size := by omega
    have ho' : l[i]? = some o := by simpa using ho
    have h1 := RegSteps.get l 0 hs i o ho' (fun j => S.getD j false) a w (by simp [hlt'] at hi ⊢; exact hi) (by
      unfold predsOf
      rw [List.all_eq_true]
      intro e he
      cases hbd : Region.binds .any e with
      | false => rfl
      | true => simpa using hp e (by simpa using he) hbd) hI
    have hset : ∀ a' w', I (upd (fun j => S.getD j false) (0 + i)) a' w' → I (fun j => (S.setIfInBounds i true).getD j false) a' w' := fun a' w' h => hext _ _ _ _ (fun j => by
      unfold upd
      simp only [Nat.zero_add]
      by_cases hj : j = i
      · subst hj; simp [hlt']
      · rw [getD_set_ne false (fun e => hj e.symm)]; simp [hj]) h
    unfold wpOp
    rw [ho]
    dsimp only
    split
    · rename_i hw
      rw [if_pos hw] at h1
      exact .inl (Oper.wp_mono hset h1)
    · rename_i hw
      rw [if_neg hw] at h1
      exact hset _ _ h1
  · intro S a w hS hall hI
    refine he a w (hext _ _ _ _ (fun j => ?_) hI)
    by_cases hj : j < l.length
    · rw [hall j (by simpa using hj)]; simp [hj]
    · simp [hj, show ¬ j < S.size by simp at hS; omega]
/-- the operations that must have run before o, as numbers -/
def predL (o : Oper) : List Nat := ((o.after.toList.filter (Region.binds .any)).map (·.on)).eraseDups
def conjS (S : Nat → Bool) : List Nat → Prop
  | [] => True
  | [j] => S j = true
  | j :: l => S j = true ∧ conjS S l
theorem conjS_of {S : Nat → Bool} : ∀ (l : List Nat), (∀ j ∈ l, S j = true) → conjS S l
  | [], _ => trivial
  | [j], h => h j (by simp)
  | j :: k :: l, h => ⟨h j (by simp), conjS_of (k :: l) (fun i hi => h i (by simp [hi]))⟩
theorem preds_conj {o : Oper} {S : Nat → Bool} (h : predsOf o S = true) {l : List Nat} (hl : predL o = l) : conjS S l := by
  refine conjS_of l fun j hj => ?_
  rw [← hl, predL, List.mem_eraseDups, List.mem_map] at hj
  obtain ⟨e, he, rfl⟩ := hj
  rw [List.mem_filter] at he
  have := List.all_eq_true.1 h e he.1
  simpa [he.2] using this
@[simp] theorem upd_self (S : Nat → Bool) (i : Nat) : upd S i i = true := by simp [upd]
end
end Go
