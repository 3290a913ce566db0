/- Proved here: lemmas and contracts (ByteWalks) for the laws of this seat, for all values of the stated types; no further condition. -/
import Derived.Test.YtkeghgjokgpmbaaBytes
open Go Go.RowKit
namespace Go.Proofs.L
theorem z40 (w : World) : (zeroValue 40).run Try.prog w = .ok (.agg (byts 0)) w := by kernel_rfl
theorem a40 : aggT Try.prog 40 32 := aggT_of (by kernel_rfl)
theorem ld40 (ρ x d t p af g w) : Sem.run Try.prog (execOp ρ { dst := d, op := .load 40 x, type := t, pos := p, after := af, guard := g }) w = loadV Try.prog 32 40 w (ρ x) := exec_load_row a40 ρ x d t p af g w
theorem st40 (ρ x y d t p af g w) : Sem.run Try.prog (execOp ρ { dst := d, op := .store 40 x y, type := t, pos := p, after := af, guard := g }) w = storeV Try.prog 32 40 w (ρ x) (ρ y) := exec_store_row a40 ρ x y d t p af g w
theorem byts_size (n : Nat) : (byts n).size = 32 := by simp [byts, cellsK_size, bl_len]
theorem byts_all (n : Nat) : allOne (byts n) = true := cellsK_all _ _
/-- the first k bytes of n, zeros behind -/
def blk (n k : Nat) : List Int := (List.range 32).map fun i => if i < k then (B8 n (31 - i) : Int) else 0
theorem blk_len (n k : Nat) : (blk n k).length = 32 := by simp [blk]
theorem blk_zero (n : Nat) : blk n 0 = bl 0 := by
  unfold blk bl; apply List.map_congr_left; intro i _; simp [B8]
theorem blk_full (n : Nat) : blk n 32 = bl n := by
  unfold blk bl; apply List.map_congr_left; intro i hi; rw [if_pos (List.mem_range.1 hi)]
theorem blk_set (n k : Nat) : (blk n k).set k (B8 n (31 - k) : Int) = blk n (k + 1) := by
  apply List.ext_getElem
  · simp [blk]
  · intro i h1 h2
    rw [List.getElem_set]
    simp only [blk, List.getElem_map, List.getElem_range]
    by_cases h : k = i
    · subst h; simp
    · simp only [h, ↓reduceIte]
      by_cases hik : i < k
      · rw [if_pos hik, if_pos (by omega)]
      · rw [if_neg hik, if_neg (by omega)]
attribute [local go_sem ↓] z23 z24 z27 z40 ld23 st23 ld24 st24 ld27 st27 ld40 st40
attribute [local go_sem] num_size num_all num_getE bts_size bts_all byts_size byts_all
set_option maxRecDepth 100000 in
set_option maxHeartbeats 800000 in
theorem bytes_any (a : Nat) (w : World) :
    Calls Try.prog 17 #[.agg (num a)] w fun e w' => e = .returned (.agg (byts a)) ∧ Below w.heap.size w w' := by
  go_enter Try.func17, Try.ntmps17
  go_wp2
  go_loopw [5] (fun i wr => ∃ k : Nat, k ≤ 32 ∧ i = .int .i64 k ∧ wr.row? w.heap.size = some (num a) ∧ wr.row? (w.heap.size+1) = some (byts 0) ∧ wr.row? (w.heap.size + 1 + 1) = some (cellsK .u8 (blk a k)) ∧ Below w.heap.size w wr) (fun i _ => 32 - (intOf i).toNat)
  case atStart =>
    refine ⟨0, by omega, rfl, by go_simp, by go_simp, by go_simp; rw [blk_zero]; rfl, ?_⟩
    exact (((Below.refl _ _).alloc (Nat.le_refl _) _).alloc (by simp) _).alloc (by simp; omega) _
  case round =>
    obtain ⟨k, hk, rfl, h1, h2, h3, hB⟩ := hrel
    by_cases hlt : k < 32
    · have c1 := num_row h1 (7 - k / 4) (by omega)
      have c3 := row_int h3 k (by rw [blk_len]; exact hlt)
      have f3 := row_free h3 k
      have b1 := D_lt a (7 - k / 4)
      have q1 : ((7 : Int) - (k : Int) / 4).toNat = 7 - k / 4 := by omega
      have q2 : ((24 : Int) - 8 * ((k : Int) % 4)).toNat = 8 * (3 - k % 4) := by omega
      have H : Hid ((blk a k).set k (B8 a (31 - k) : Int) = blk a (k+1)) := blk_set a k
      go_wp2
      go_roundw
      case rel =>
        have e3 := H.out
        refine ⟨k + 1, by omega, by go_num, ?_, ?_, ?_, ?_⟩
        · go_simp
        · go_simp
        · go_simp
          have e : ((D a (7 - k / 4) : Int) / 2 ^ (8 * (3 - k % 4)) % 256) = (B8 a (31 - k) : Int) := by
            rw [B8_D a k hlt, Int.natCast_emod, Int.natCast_ediv, Int.natCast_pow]; rfl
          rw [e, cellsK_set, e3]
        · exact hB.setCell (by show _ ≤ w.heap.size + 1 + 1; omega) _
      case measure => simp [intOf]; omega
    · have : k = 32 := by omega
      subst this
      rw [blk_full] at h3
      have h1' : wr.row? (w.heap.size+1+1) = some (byts a) := h3
      clear h3
      go_wp2
      exact bodyPost_ret (ret_cell1 rfl a40 rfl (by go_simp) (byts_size _)) rfl ⟨rfl, below_setRow' hB (by omega) _⟩
theorem read_err (a : Option Addr) (len cap : Nat) (hl : ¬ len = 32) (w : World) :
    Calls Try.prog 18 #[.slice a len cap] w fun e w' => e = .returned (.tuple #[.agg (num 0), .int .i64 2]) ∧ Below w.heap.size w w' := by
  have hn : ((len : Int) != 32) = true := by rw [bne_iff_ne]; omega
  go_enter Try.func18, Try.ntmps18
  go_wp2
  exact bodyPost_ret (ret_cell2 rfl a24 rfl (by go_simp) (num_size _) rfl) rfl ⟨rfl, ((Below.refl _ _).alloc (Nat.le_refl _) _).alloc (by simp) _⟩
theorem st_row {w : World} {b n k j : Nat} (h : w.row? b = some (cellsK .u32 (stL n k))) (hj : j < 8) : w.cell? ⟨b, j, none⟩ = some (.int .u32 (St n k j : Int)) := by
  rw [row_int h j (by rw [stL_len]; exact hj), at', stL_get _ _ _ hj]
set_option maxRecDepth 100000 in
set_option maxHeartbeats 800000 in
theorem read_any (n b off cap : Nat) (w : World) (hc : ∀ i, i < 32 → w.cell? ⟨b, off + i, none⟩ = some (.int .u8 (B8 n (31 - i) : Int))) (hb : b < w.heap.size) :
    Calls Try.prog 18 #[.slice (some ⟨b, off, none⟩) 32 cap] w fun e w' => e = .returned (.tuple #[.agg (num n), .int .i64 0]) ∧ Below w.heap.size w w' := by
  have HC : Hid (∀ i, i < 32 → w.cell? ⟨b, off + i, none⟩ = some (.int .u8 (B8 n (31 - i) : Int))) := hc
  clear hc
  go_enter Try.func18, Try.ntmps18
  go_wp2
  go_loopw [13] (fun i wr => ∃ k : Nat, k ≤ 32 ∧ i = .int .i64 k ∧ wr.row? w.heap.size = some (num 0) ∧ wr.row? (w.heap.size+1) = some (cellsK .u32 (stL n k)) ∧ Below w.heap.size w wr) (fun i _ => 32 - (intOf i).toNat)
  case atStart =>
    refine ⟨0, by omega, rfl, by go_simp, by go_simp; rw [stL_zero]; rfl, ?_⟩
    exact ((Below.refl _ _).alloc (Nat.le_refl _) _).alloc (by simp) _
  case round =>
    obtain ⟨k, hk, rfl, h1, h2, hB⟩ := hrel
    by_cases hlt : k < 32
    · have c0 : wr.cell? ⟨b, off + k, none⟩ = some (.int .u8 (B8 n (31 - k) : Int)) := (hB.cell (p := ⟨b, off + k, none⟩) hb).trans (HC.out k hlt)
      have c1 := st_row h2 (j := 7 - k / 4) (by omega)
      have f1 := row_free h2 (7 - k / 4)
      have b1 := (St_step n k hlt).2
      have b2 := B8_lt n (31 - k)
      have q1 : ((7 : Int) - (k : Int) / 4).toNat = 7 - k / 4 := by omega
      have H : Hid (_ = stL n (k+1)) := stL_set n k hlt
      have ho := or_byte (St n k (7 - k / 4)) (B8 n (31 - k)) b1 b2
      go_wp2
      go_roundw
      case rel =>
        have e3 := H.out
        refine ⟨k + 1, by omega, by go_num, ?_, ?_, ?_⟩
        · go_simp
        · go_simp
          rw [cellsK_set, ← e3]; congr 2
        · exact hB.setCell (by show _ ≤ w.heap.size + 1; omega) _
      case measure => simp [intOf]; omega
    · have : k = 32 := by omega
      subst this
      rw [stL_full] at h2
      have h1' : wr.row? (w.heap.size+1) = some (num n) := h2
      clear h2
      go_wp2
      exact bodyPost_ret (ret_cell2 rfl a24 rfl (by go_simp) (num_size _) rfl) rfl ⟨rfl, below_setRow' hB (by omega) _⟩
end Go.Proofs.L
