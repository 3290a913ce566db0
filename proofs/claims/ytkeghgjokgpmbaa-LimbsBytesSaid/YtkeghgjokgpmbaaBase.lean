/- Proved here: lemmas and contracts (Base) for the laws of this seat, for all values of the stated types; no further condition. -/
import Derived.Test.YtkeghgjokgpmbaaProg
import Derived.Test.YtkeghgjokgpmbaaRow
import Derived.Test.YtkeghgjokgpmbaaNum
import Derived.Test.YtkeghgjokgpmbaaBits
import Derived.KernelRfl
open Go Go.RowKit
namespace Go.Proofs.L
def num (n : Nat) : Array Value := cellsK .u32 (dig n)
def bts (n : Nat) : Array Value := cellsK .i64 (Bt.dig n)
theorem z23 (w : World) : (zeroValue 23).run Try.prog w = .ok (.agg (num 0)) w := by kernel_rfl
theorem z24 (w : World) : (zeroValue 24).run Try.prog w = .ok (.agg (num 0)) w := by kernel_rfl
theorem z27 (w : World) : (zeroValue 27).run Try.prog w = .ok (.agg (bts 0)) w := by kernel_rfl
theorem a23 : aggT Try.prog 23 8 := aggT_of (by kernel_rfl)
theorem a24 : aggT Try.prog 24 8 := aggT_of (by kernel_rfl)
theorem a27 : aggT Try.prog 27 256 := aggT_of (by kernel_rfl)
theorem ld23 (ρ x d t p af g w) : Sem.run Try.prog (execOp ρ { dst := d, op := .load 23 x, type := t, pos := p, after := af, guard := g }) w = loadV Try.prog 8 23 w (ρ x) := exec_load_row a23 ρ x d t p af g w
theorem st23 (ρ x y d t p af g w) : Sem.run Try.prog (execOp ρ { dst := d, op := .store 23 x y, type := t, pos := p, after := af, guard := g }) w = storeV Try.prog 8 23 w (ρ x) (ρ y) := exec_store_row a23 ρ x y d t p af g w
theorem ld24 (ρ x d t p af g w) : Sem.run Try.prog (execOp ρ { dst := d, op := .load 24 x, type := t, pos := p, after := af, guard := g }) w = loadV Try.prog 8 24 w (ρ x) := exec_load_row a24 ρ x d t p af g w
theorem st24 (ρ x y d t p af g w) : Sem.run Try.prog (execOp ρ { dst := d, op := .store 24 x y, type := t, pos := p, after := af, guard := g }) w = storeV Try.prog 8 24 w (ρ x) (ρ y) := exec_store_row a24 ρ x y d t p af g w
theorem ld27 (ρ x d t p af g w) : Sem.run Try.prog (execOp ρ { dst := d, op := .load 27 x, type := t, pos := p, after := af, guard := g }) w = loadV Try.prog 256 27 w (ρ x) := exec_load_row a27 ρ x d t p af g w
theorem st27 (ρ x y d t p af g w) : Sem.run Try.prog (execOp ρ { dst := d, op := .store 27 x y, type := t, pos := p, after := af, guard := g }) w = storeV Try.prog 256 27 w (ρ x) (ρ y) := exec_store_row a27 ρ x y d t p af g w
theorem num_size (n : Nat) : (num n).size = 8 := by simp [num, cellsK_size, dig_len]
theorem num_all (n : Nat) : allOne (num n) = true := cellsK_all _ _
theorem bts_size (n : Nat) : (bts n).size = 256 := by simp [bts, cellsK_size, Bt.dig_len]
theorem bts_all (n : Nat) : allOne (bts n) = true := cellsK_all _ _
theorem num_row {w : World} {b n : Nat} (h : w.row? b = some (num n)) (i : Nat) (hi : i < 8) : w.cell? ⟨b, i, none⟩ = some (.int .u32 (D n i : Int)) := by
  rw [row_int h i (by rw [dig_len]; exact hi), at', dig_get _ _ hi]
theorem mix_row {w : World} {b k x y : Nat} (h : w.row? b = some (cellsK .u32 (mix k x y))) (hi : k < 8) : w.cell? ⟨b, k, none⟩ = some (.int .u32 (D y k : Int)) := by
  rw [row_int h k (by rw [mix_len]; exact hi), at', mix_get _ _ _ _ hi, if_neg (by omega)]
theorem bts_row {w : World} {b n : Nat} (h : w.row? b = some (bts n)) (i : Nat) (hi : i < 256) : w.cell? ⟨b, i, none⟩ = some (.int .i64 (Bt.D n i : Int)) := by
  rw [row_int h i (by rw [Bt.dig_len]; exact hi), at', Bt.dig_get _ _ hi]
theorem bmix_row {w : World} {b k x y : Nat} (h : w.row? b = some (cellsK .i64 (Bt.mix k x y))) (hi : k < 256) : w.cell? ⟨b, k, none⟩ = some (.int .i64 (Bt.D y k : Int)) := by
  rw [row_int h k (by rw [Bt.mix_len]; exact hi), at', Bt.mix_get _ _ _ _ hi, if_neg (by omega)]
end Go.Proofs.L
