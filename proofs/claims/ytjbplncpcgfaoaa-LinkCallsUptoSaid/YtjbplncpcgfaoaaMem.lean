/- Proved here: lemmas and contracts (Mem) for the laws of this seat, for all values of the stated types; no further condition. -/
import Derived.Test.YtjbplncpcgfaoaaRow
import Derived.KernelRfl
open Go Go.RowKit
namespace Go.Proofs.L
/-- memory's size -/
@[irreducible] def RS : Nat := 65536
theorem RS_eq : RS = 65536 := by unfold RS; rfl
/-- memory's cells, by a function of the place -/
def memL (f : Nat → Nat) : List Int := (List.range RS).map fun i => (f i : Int)
def mem (f : Nat → Nat) : Array Value := cellsK .u8 (memL f)
theorem memL_len (f) : (memL f).length = 65536 := by simp [memL, RS_eq]
theorem mem_size (f) : (mem f).size = 65536 := by rw [mem, cellsK_size, memL_len]
theorem mem_all (f) : allOne (mem f) = true := cellsK_all _ _
theorem memL_get (f : Nat → Nat) (i : Nat) (h : i < 65536) : at' (memL f) i = (f i : Int) := by simp [at', memL, RS_eq, h]
theorem mem_row {w : World} {b : Nat} {f : Nat → Nat} (h : w.row? b = some (mem f)) (i : Nat) (hi : i < 65536) : w.cell? ⟨b, i, none⟩ = some (.int .u8 (f i : Int)) := by
  rw [row_int h i (by rw [memL_len]; exact hi), memL_get f i hi]
/-- one byte changed -/
def up (f : Nat → Nat) (i v : Nat) : Nat → Nat := fun j => if j = i then v else f j
theorem mem_set (f : Nat → Nat) (i v : Nat) : (mem f).setIfInBounds i (.int .u8 (v : Int)) = mem (up f i v) := by
  rw [mem, cellsK_set, mem]
  congr 1
  apply List.ext_getElem
  · simp [memL]
  · intro j h1 h2
    rw [List.getElem_set]
    simp only [memL, List.getElem_map, List.getElem_range, up]
    by_cases h : i = j
    · subst h; simp
    · rw [if_neg h, if_neg (fun e => h e.symm)]
theorem mem_ext {f g : Nat → Nat} (h : ∀ i, i < 65536 → f i = g i) : mem f = mem g := by
  unfold mem memL; congr 1
  apply List.map_congr_left
  intro i hi
  rw [h i (by have := List.mem_range.1 hi; rw [RS_eq] at this; exact this)]
/-- what has changed: only the blocks of E, and new ones -/
structure Chg (E : List Nat) (w w' : World) : Prop where
  os : w'.os = w.os
  tape : w'.tape = w.tape
  output : w'.output = w.output
  size : w.heap.size ≤ w'.heap.size
  block : ∀ k, k < w.heap.size → k ∉ E → w'.heap[k]? = w.heap[k]?
theorem Chg.refl (E w) : Chg E w w := ⟨rfl, rfl, rfl, Nat.le_refl _, fun _ _ _ => rfl⟩
theorem Chg.trans {E a b c} (h : Chg E a b) (k : Chg E b c) : Chg E a c :=
  ⟨k.os.trans h.os, k.tape.trans h.tape, k.output.trans h.output, Nat.le_trans h.size k.size, fun i hi hE => (k.block i (Nat.lt_of_lt_of_le hi h.size) hE).trans (h.block i hi hE)⟩
theorem Chg.drew {E a w} (h : Chg E a w) : Chg E a w.drew := ⟨h.os, h.tape, h.output, h.size, h.block⟩
theorem Chg.drewN {E a w} (h : Chg E a w) (n : Nat) : Chg E a (w.drewN n) := ⟨h.os, h.tape, h.output, h.size, h.block⟩
theorem Chg.alloc {E a w} (h : Chg E a w) (o : Obj) : Chg E a (w.alloc o) :=
  h.trans ⟨rfl, rfl, rfl, by simp, fun k hk _ => Below.heap_alloc _ _ _ hk⟩
theorem Chg.setCell {E a w} (h : Chg E a w) {p : Addr} (hp : p.block ∈ E ∨ a.heap.size ≤ p.block) (v : Value) : Chg E a (w.setCell p v) :=
  ⟨h.os, h.tape, h.output, by simpa [World.setCell] using h.size, fun k hk hE => (Below.heap_setCell w p v k (by rintro rfl; rcases hp with hp | hp; exact hE hp; omega)).trans (h.block k hk hE)⟩
theorem Chg.setRow {E a w} (h : Chg E a w) {g : Nat} (hp : g ∈ E ∨ a.heap.size ≤ g) (cs : Array Value) : Chg E a (w.setRow g cs) :=
  ⟨h.os, h.tape, h.output, by simpa [World.setRow] using h.size, fun k hk hE => (setRow_other w g k cs (by rintro rfl; rcases hp with hp | hp; exact hE hp; omega)).trans (h.block k hk hE)⟩
theorem Chg.below {E a b n} (h : Chg E a b) (hE : ∀ k ∈ E, n ≤ k) (hn : n ≤ a.heap.size) : Below n a b :=
  ⟨h.os, h.tape, h.output, h.size, fun k hk => h.block k (by omega) (fun hm => by have := hE k hm; omega)⟩
theorem Below.chg {a b : World} (h : Below a.heap.size a b) (E) : Chg E a b := ⟨h.os, h.tape, h.output, h.size, fun k hk _ => h.block k hk⟩
theorem Chg.row {E w w'} (h : Chg E w w') {b : Nat} (hb : b < w.heap.size) (hE : b ∉ E) : w'.row? b = w.row? b := by
  unfold World.row?; rw [h.block b hb hE]
theorem RowsOf.keepC {E : List Nat} {W w : World} (h : Chg E W w) : ∀ {l : List (Nat × Array Value)}, (∀ x ∈ l, x.1 ∉ E) → RowsOf W l → RowsOf w l
  | [], _, _ => trivial
  | x :: l, hE, h1 => ⟨⟨(h.row h1.1.2 (hE x (by simp))).trans h1.1.1, Nat.lt_of_lt_of_le h1.1.2 h.size⟩, RowsOf.keepC h (fun y hy => hE y (by simp [hy])) h1.2⟩
/-- do n bytes from 'at' on lie in memory? -/
def inRam (a n : Nat) : Bool := decide (2147483648 ≤ a ∧ a + n ≤ 2147549184)
/-- n bytes as a number, the lowest first -/
def leN (f : Nat → Nat) (o : Nat) : Nat → Nat
  | 0 => 0
  | n + 1 => leN f o n + f (o + n) * 2 ^ (8 * n)
/-- n bytes of x stored -/
def stN (f : Nat → Nat) (o : Nat) (x : Nat) : Nat → (Nat → Nat)
  | 0 => f
  | n + 1 => up (stN f o x n) (o + n) (x / 2 ^ (8 * n) % 256)
theorem leN_lt (f : Nat → Nat) (hf : ∀ i, f i < 256) (o : Nat) : ∀ n, leN f o n < 2 ^ (8 * n)
  | 0 => by simp [leN]
  | n + 1 => by
    have h1 := leN_lt f hf o n
    have h2 := hf (o + n)
    have h3 : f (o + n) * 2 ^ (8 * n) ≤ 255 * 2 ^ (8 * n) := Nat.mul_le_mul_right _ (by omega)
    rw [show 8 * (n + 1) = 8 * n + 8 from by omega, Nat.pow_add]
    simp only [leN]
    generalize 2 ^ (8 * n) = p at *
    omega
theorem stN_get (f : Nat → Nat) (o x : Nat) : ∀ n i, stN f o x n i = if o ≤ i ∧ i < o + n then x / 2 ^ (8 * (i - o)) % 256 else f i
  | 0, i => by rw [if_neg (by omega)]; rfl
  | n + 1, i => by
    simp only [stN, up]
    split
    · rename_i h; subst h; rw [if_pos (by omega), show o + n - o = n from by omega]
    · rw [stN_get f o x n i]
      by_cases h : o ≤ i ∧ i < o + n
      · rw [if_pos h, if_pos (by omega)]
      · rw [if_neg h, if_neg (by omega)]
theorem stN_lt (f : Nat → Nat) (hf : ∀ i, f i < 256) (o x n i : Nat) : stN f o x n i < 256 := by
  rw [stN_get]; split
  · exact Nat.mod_lt _ (by decide)
  · exact hf i
theorem u32_id {n : Nat} (h : n < 4294967296) : IntKind.u32.wrap (n : Int) = n := by
  simp [IntKind.wrap, IntKind.bits, IntKind.signed]; omega
theorem or_le32 (x c n : Nat) (hx : x < 2 ^ (8 * n)) (hc : c < 256) (hn : n < 4) : bits .or .u32 (x : Int) ((c * 2 ^ (8 * n) : Nat) : Int) = ((x + c * 2 ^ (8 * n) : Nat) : Int) := by
  have hb : c * 2 ^ (8 * n) + x < 4294967296 := by
    have hs : n = 0 ∨ n = 1 ∨ n = 2 ∨ n = 3 := by omega
    rcases hs with rfl | rfl | rfl | rfl <;> simp at * <;> omega
  show IntKind.u32.wrap ((BitVec.ofInt 32 (x : Int) ||| BitVec.ofInt 32 ((c * 2 ^ (8 * n) : Nat) : Int)).toNat : Int) = _
  have h1 : (BitVec.ofInt 32 (x : Int)).toNat = x := by rw [BitVec.ofInt_natCast, BitVec.toNat_ofNat]; exact Nat.mod_eq_of_lt (by omega)
  have h2 : (BitVec.ofInt 32 ((c * 2 ^ (8 * n) : Nat) : Int)).toNat = c * 2 ^ (8 * n) := by rw [BitVec.ofInt_natCast, BitVec.toNat_ofNat]; exact Nat.mod_eq_of_lt (by omega)
  have h3 : x ||| c * 2 ^ (8 * n) = x + c * 2 ^ (8 * n) := by
    have := Nat.two_pow_add_eq_or_of_lt hx c
    rw [Nat.or_comm, Nat.mul_comm c, ← this]; omega
  rw [BitVec.toNat_or, h1, h2, h3]
  exact u32_id (by omega)
end Go.Proofs.L
