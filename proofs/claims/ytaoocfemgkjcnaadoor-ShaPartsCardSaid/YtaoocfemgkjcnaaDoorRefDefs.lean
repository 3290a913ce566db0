/- Proved here: lemmas and contracts (RefDefs) for the laws of this seat, for all values of the stated types; no further condition. -/
import Derived.Test.YtaoocfemgkjcnaaDoorRefRoots
import Derived.Test.YtaoocfemgkjcnaaDoorRefPlain
import Derived.Laws.AppendOwnNone
open Go Go.RowKit Go.Lib
namespace Go.Proofs.L
attribute [local irreducible] wpT
theorem app_src {P : Program} {w : World} {ops : Array Oper} {rest : List Oper} {o : Oper} {a : Act} {Q : Exit → Act → World → Prop} (hgd : o.guard = none) (s x : Operand) (t e : TypeId) (k : IntKind) (bytes : Nat)
    (ho : o.op = .call { callee := .builtin .append, args := #[s, x], argTypes := #[t, t] }) (ht : P.underlying t = some (.slice e)) (hI : (P.info? e).map (fun i => (i.zero, i.size, i.bytes)) = some (some (.int k 0), 1, bytes)) (hb8 : bytes ≤ 8)
    (base : Nat) (v : Value) (n : Nat) (L : List Nat) (hs : a.eval s = v) (hown : w.ownsRow base e 1 v n (L.map fun x : Nat => Value.int k (x : Int)))
    (pp : Option Addr) (m c : Nat) (M : List Nat) (hx : a.eval x = .slice pp m c) (hl : M.length = m) (hnone : pp = none → m = 0 ∧ c = 0) (hsome : ∀ ad, pp = some ad → ∀ (j y : Nat), M[j]? = some y → w.cell? (ad.add j) = some (.int k (y : Int))) (hn : n + m < 100000000) (hbase : base ≤ w.heap.size)
    (h : ∀ v' w', w'.ownsRow base e 1 v' (n + m) ((L ++ M).map fun x : Nat => Value.int k (x : Int)) → w.grownBy w' v.ownBlock → wpList P ops Q rest (a.put o.dst v') w') : wpList P ops Q (o :: rest) a w := by
  obtain ⟨i, hi, hz, h1, h2⟩ := info_parts hI
  cases pp with
  | none =>
    obtain ⟨rfl, rfl⟩ := hnone rfl
    obtain rfl := List.eq_nil_of_length_eq_zero hl
    exact wpList_append_own_none hgd s x t ho base e i 1 ht hi v n _ hs hown hx (h v w (by simpa using hown) (World.grownBy.refl _ _))
  | some ad =>
    refine wpList_append_own w hgd s x t ho base e i (.int k 0) 1 bytes ht hi hz h1 h2 rfl (by decide) v n _ hs hown ad m c (M.map fun x : Nat => Value.int k (x : Int)) hx (by simp [hl]) (fun j u hu => ?_) (natU_one k M) (by unfold maxLen; omega) (by
      have : (n + m) * bytes ≤ 100000000 * 8 := Nat.mul_le_mul (by omega) hb8
      omega) hbase (fun v' w' q1 q2 _ => h v' w' (by rw [List.map_append]; exact q1) q2)
    rw [List.getElem?_map] at hu
    cases hq : M[j]? with
    | none => rw [hq] at hu; cases hu
    | some y =>
      rw [hq] at hu
      obtain rfl := Option.some.inj hu
      exact hsome ad rfl j y hq
def lenV : Value → Nat | .slice _ n _ => n | _ => 0
def padL (L : List Nat) : List Nat := L ++ [128] ++ List.replicate (padK (L.length + 1)) 0 ++ lenL L.length
def chunkN (M : List Nat) (j : Nat) : List Nat := (M.drop (64 * j)).take 64
def hN (M : List Nat) : Nat → List Nat
  | 0 => h0L
  | j + 1 => blockN (hN M j) (chunkN M j)
def refN (L : List Nat) : List Nat := outN (hN (padL L) ((padL L).length / 64)) 32
def NatAt (w : World) (k : IntKind) (g : Nat) (L : List Nat) : Prop := ∀ (j x : Nat), L[j]? = some x → w.cell? ⟨g, j, none⟩ = some (.int k (x : Int))
theorem NatAt.keep {E : List Nat} {w w' : World} {k : IntKind} {g : Nat} {L : List Nat} (h : NatAt w k g L) (hc : Chg E w w') (hE : g ∉ E) : NatAt w' k g L := fun j x hj => by
  have := h j x hj
  rw [World.cell?_of_block (w := w) (hc.block g (World.block_lt_of_cell? w _ this) hE)]; exact this
theorem NatAt.of_own {w : World} {base e n : Nat} {v : Value} {k : IntKind} {L : List Nat} (h : w.ownsRow base e 1 v n (natL k L)) {g : Nat} (hg : v.ownBlock = some g) : NatAt w k g L := fun j x hj =>
  cellsAt h hg j _ (by unfold natL; rw [List.getElem?_map, hj]; rfl)
theorem NatAt.get {w : World} {k : IntKind} {g : Nat} {L : List Nat} (h : NatAt w k g L) (i x : Nat) (hi : i < L.length) (hx : x = L.getD i 0) : w.cell? ⟨g, i, none⟩ = some (.int k (x : Int)) :=
  h i x (by rw [hx, List.getD_eq_getElem?_getD, List.getElem?_eq_getElem hi]; rfl)
theorem blockN_len (h p : List Nat) (hl : h.length = 8) : (blockN h p).length = 8 := addH_len h _ hl 8
theorem hN_len (M : List Nat) (j : Nat) : (hN M j).length = 8 := by
  induction j with
  | zero => rfl
  | succ j ih => exact blockN_len _ _ ih
theorem hN_lt (M : List Nat) (j : Nat) : ∀ x ∈ hN M j, x < 4294967296 := by
  induction j with
  | zero => show ∀ x ∈ h0L, x < 4294967296; decide
  | succ j ih => exact addH_lt _ _ ih 8
theorem padL_lt (L : List Nat) (h : ∀ x ∈ L, x < 256) : ∀ x ∈ padL L, x < 256 := by
  intro x hx
  unfold padL at hx
  rw [List.mem_append, List.mem_append, List.mem_append] at hx
  rcases hx with ((hx | hx) | hx) | hx
  · exact h x hx
  · rw [List.mem_singleton] at hx; rw [hx]; decide
  · rw [List.eq_of_mem_replicate hx]; decide
  · unfold lenL at hx
    rw [List.mem_map] at hx
    obtain ⟨i, _, rfl⟩ := hx
    exact Nat.mod_lt _ (by decide)
theorem BytesAt.all {w : World} {b o : Nat} {L : List Nat} (h : BytesAt w b o L) : ∀ x ∈ L, x < 256 := fun x hx => by
  obtain ⟨i, hi, rfl⟩ := List.mem_iff_getElem.1 hx
  exact (h i _ (List.getElem?_eq_getElem hi)).2
theorem chunk_len (M : List Nat) (j n : Nat) (h : M.length = n) (hj : 64 * j + 64 ≤ n) : (chunkN M j).length = 64 := by
  unfold chunkN; rw [List.length_take, List.length_drop, h]; omega
theorem chunk_get (M : List Nat) (j t : Nat) (ht : t < 64) : (chunkN M j).getD t 0 = M.getD (64 * j + t) 0 := by
  unfold chunkN
  rw [List.getD_eq_getElem?_getD, List.getElem?_take, if_pos ht, List.getElem?_drop, ← List.getD_eq_getElem?_getD]
theorem chunk_lt (M : List Nat) (h : ∀ x ∈ M, x < 256) (j : Nat) : ∀ x ∈ chunkN M j, x < 256 := fun x hx => h x (List.mem_of_mem_drop (List.mem_of_mem_take hx))
theorem lt64 {a : Nat} (h : a < 4294967296) : a < 18446744073709551616 := by omega
theorem xor64 {a b : Nat} (h1 : a < 18446744073709551616) (h2 : b < 18446744073709551616) : a ^^^ b < 18446744073709551616 := Nat.xor_lt_two_pow (n := 64) h1 h2
theorem sched_eq {x0 x9 y2 y4 z1 z2 z3 s : Nat} (h1 : z1 = (x0 + x9) % 18446744073709551616) (h2 : z2 = (z1 + y2) % 18446744073709551616) (h3 : z3 = (z2 + y4) % 18446744073709551616) (h4 : s = z3 % 4294967296) :
    s = (((x0 + x9) % 4294967296 + y2) % 4294967296 + y4) % 4294967296 := by omega
theorem sub_lt32 {v ne : Nat} (h : ne = 4294967295 - v) : ne < 4294967296 := by omega
theorem and64 {a b : Nat} (h1 : a < 18446744073709551616) (_h2 : b < 18446744073709551616) : a &&& b < 18446744073709551616 := Nat.lt_of_le_of_lt Nat.and_le_left h1
theorem t_eq {v7 y2 y5 ad wk z1 z2 z3 z4 t : Nat} (h1 : z1 = (v7 + y2) % 18446744073709551616) (h2 : z2 = (z1 + y5) % 18446744073709551616) (h3 : z3 = (z2 + ad) % 18446744073709551616) (h4 : z4 = (z3 + wk) % 18446744073709551616) (h5 : t = z4 % 4294967296) :
    t = ((((v7 + y2) % 4294967296 + y5) % 4294967296 + ad) % 4294967296 + wk) % 4294967296 := by omega
theorem u_eq {a b z u : Nat} (h1 : z = (a + b) % 18446744073709551616) (h2 : u = z % 4294967296) : u = (a + b) % 4294967296 := by omega
theorem wsubm {v ne : Nat} (h : ne = 4294967295 - v) (hv : v < 4294967296) : IntKind.u64.wrap (4294967295 - (v : Int)) = (ne : Int) := by rw [u64w]; omega
theorem natAt_row {w : World} {k : IntKind} {g : Nat} {L : List Nat} (h : w.row? g = some (natL k L).toArray) : NatAt w k g L := fun j x hj => by
  rw [row_cell h, natL, List.getElem?_toArray, List.getElem?_map, hj]; rfl
theorem natL_setL (k : IntKind) (L : List Nat) (i x : Nat) : (natL k L).set i (.int k (x : Int)) = natL k (L.set i x) := by unfold natL; rw [List.map_set]
def wsN (c : List Nat) (i : Nat) : List Nat := if i ≤ 16 then w1 c (4 * i) else w2 (w1 c 64) (i - 16)
def findL (b : Nat) : Code → Option Code
  | .block k c => if k = b then some c else findL b c
  | .loop c => findL b c
  | .scope c => findL b c
  | .seq a d => match findL b a with | some c => some c | none => findL b d
  | .cond _ a d => match findL b a with | some c => some c | none => findL b d
  | _ => none
def loopBody : Code → Code
  | .loop c => c
  | c => c
end Go.Proofs.L
