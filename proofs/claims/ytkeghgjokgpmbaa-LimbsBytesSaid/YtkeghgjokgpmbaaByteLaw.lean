/- Proved here: lemmas and contracts (ByteLaw) for the laws of this seat, for all values of the stated types; no further condition. -/
import Derived.Test.YtkeghgjokgpmbaaByteWalks
import Derived.Test.YtkeghgjokgpmbaaBack
open Go Go.RowKit
namespace Go.Proofs.L
attribute [local go_sem ↓] z23 z24 z27 z40 ld23 st23 ld24 st24 ld27 st27 ld40 st40 bd27 bd24 bd24z
attribute [local go_sem] num_size num_all num_getE bts_size bts_all byts_size byts_all
theorem byts_cells {w : World} {b n : Nat} (h : w.row? b = some (byts n)) : ∀ i, i < 32 → w.cell? ⟨b, 0 + i, none⟩ = some (.int .u8 (B8 n (31 - i) : Int)) := by
  intro i hi
  rw [Nat.zero_add, row_int h i (by rw [bl_len]; exact hi), at', bl_get _ _ hi]
theorem bit_B8 (a n : Nat) : B8 a (n / 8) / 2 ^ (n % 8) % 2 = Bt.D a n := by
  unfold B8 Bt.D
  have e : a / 2 ^ (8 * (n / 8)) % 256 / 2 ^ (n % 8) % 2 = a / 2 ^ (8 * (n / 8)) / 2 ^ (n % 8) % 2 := by
    generalize a / 2 ^ (8 * (n / 8)) = x
    have h : n % 8 < 8 := Nat.mod_lt _ (by decide)
    have e : (256 : Nat) = 2 ^ (n % 8) * 2 ^ (8 - n % 8) := by rw [← Nat.pow_add, show n % 8 + (8 - n % 8) = 8 from by omega]
    rw [e, Nat.mod_mul_right_div_self, Nat.mod_mod_of_dvd]
    have : (2:Nat) ^ 1 ∣ 2 ^ (8 - n % 8) := Nat.pow_dvd_pow 2 (by omega)
    simpa using this
  rw [e, Nat.div_div_eq_div_mul, ← Nat.pow_add, show 8 * (n / 8) + n % 8 = 1 * n from by omega]
theorem and_one8 (x : Nat) (hx : x < 256) : bits .and .u8 (x : Int) 1 = ((x % 2 : Nat) : Int) := by
  show IntKind.u8.wrap ((BitVec.ofInt 8 (x : Int) &&& BitVec.ofInt 8 1).toNat : Int) = _
  have h1 : (BitVec.ofInt 8 (x : Int)).toNat = x := by rw [BitVec.ofInt_natCast, BitVec.toNat_ofNat]; exact Nat.mod_eq_of_lt hx
  have h2 : (BitVec.ofInt 8 1).toNat = 1 := rfl
  rw [BitVec.toNat_and, h1, h2, Nat.and_one_is_mod]
  simp [IntKind.wrap, IntKind.bits, IntKind.signed]; omega
theorem bit_at8 (a n : Nat) : bits .and .u8 ((B8 a (n / 8) : Int) / 2 ^ (n % 8)) 1 = (Bt.D a n : Int) := by
  have h := B8_lt a (n / 8)
  have e : ((B8 a (n / 8) : Int) / 2 ^ (n % 8)) = ((B8 a (n / 8) / 2 ^ (n % 8) : Nat) : Int) := by
    rw [Int.natCast_ediv, Int.natCast_pow]; rfl
  rw [e, and_one8 _ (Nat.lt_of_le_of_lt (Nat.div_le_self _ _) h), bit_B8]
theorem zero0 (w : World) : Calls Try.prog 16 #[.agg (num 0)] w fun e w' => e = .returned (.bool true) ∧ Below w.heap.size w w' := zero_any 0 (by decide) w
set_option maxRecDepth 100000 in
set_option maxHeartbeats 3200000 in
theorem lbytes_err (n : Nat) (a : Option Addr) (len cap : Nat) (hl : ¬ len = 32) (i : Int) (w : World) :
    Calls Try.prog 6 #[.agg (num n), .slice a len cap, .int .i64 i] w fun e w' => e = .returned (.bool true) ∧ Below w.heap.size w w' := by
  have he := fun w x => eqTs w x
  have hr := fun w => read_err a len cap hl w
  have hq : ((len : Int) == 32) = false := by rw [beq_eq_false_iff_ne]; omega
  clear hl
  go_enter Try.func6, Try.ntmps6
  go_wp2_with fail
  refine (fit_any _).mono ?_
  rintro e w1 ⟨rfl, hB1⟩
  obtain ⟨⟨q0, s0⟩, -⟩ := RowsOf.keep hB1 (l := [(w.heap.size, num n)]) (by go_simp)
  go_wp2_with fail
  refine (bytes_any _ _).mono ?_
  rintro e w2 ⟨rfl, hB2⟩
  obtain ⟨⟨q1, s1⟩, -⟩ := RowsOf.keep hB2 (l := [(w.heap.size, num n)]) (by go_simp)
  clear q0
  go_wp2_with fail
  refine (read_any n _ 0 32 _ (byts_cells (by go_simp)) (by go_simp)).mono ?_
  rintro e w3 ⟨rfl, hB3⟩
  obtain ⟨⟨q2, s2⟩, ⟨q3, s3⟩, -⟩ := RowsOf.keep hB3 (l := [(w.heap.size, num n), (w2.heap.size, byts n)]) (by go_simp)
  clear q1
  have h0 := (Below.refl w.heap.size w).alloc (Nat.le_refl _) (.cells (num n) 24)
  have h1 := below_call h0 h0.size hB1
  have h2 := (below_call h1 h1.size hB2).alloc (Nat.le_trans h1.size hB2.size) (.cells (byts n) 40)
  have h3 := (below_call h2 h2.size hB3).alloc (Nat.le_trans h2.size hB3.size) (.cells (num n) 24)
  clear h0 h1 h2 hB1 hB2 hB3
  go_wp2_with fail
  refine (hr _).mono ?_
  rintro e w4 ⟨rfl, hB4⟩
  obtain ⟨⟨q4, s4⟩, ⟨q5, s5⟩, ⟨q6, s6⟩, -⟩ := RowsOf.keep hB4 (l := [(w.heap.size, num n), (w2.heap.size, byts n), (w3.heap.size, num n)]) (by go_simp)
  clear q2 q3
  go_wp2_with fail
  refine (zero0 _).mono ?_
  rintro e w5 ⟨rfl, hB5⟩
  obtain ⟨⟨q7, s7⟩, ⟨q8, s8⟩, ⟨q9, s9⟩, -⟩ := RowsOf.keep hB5 (l := [(w.heap.size, num n), (w2.heap.size, byts n), (w4.heap.size, num 0)]) (by go_simp)
  clear q4 q5 q6
  have h4 := (below_call h3 h3.size hB4).alloc (Nat.le_trans h3.size hB4.size) (.cells (num 0) 24)
  have h5 := below_call h4 h4.size hB5
  clear h3 h4 hB4 hB5
  go_wp2_with fail
  refine (bytes_any _ _).mono ?_
  rintro e w6 ⟨rfl, hB6⟩
  obtain ⟨⟨q7, s7⟩, ⟨q8, s8⟩, -⟩ := RowsOf.keep hB6 (l := [(w.heap.size, num n), (w2.heap.size, byts n)]) (by go_simp)
  clear q9
  have h6 := (below_call h5 h5.size hB6).alloc (Nat.le_trans h5.size hB6.size) (.cells (byts 0) 40)
  have hz6 : w.heap.size ≤ w6.heap.size := Nat.le_trans h5.size hB6.size
  clear h5 hB6
  go_wp2_with fail
  go_quiet (fail)
  have h7 := below_drewN' h6 nq
  clear h6
  by_cases hi : i < 0 ∨ 255 < i
  · have hbo := fun w => bit_out n i hi w
    rcases hi with hi | hi
    · go_wp2_with fail
      refine (hbo _).mono ?_
      rintro e w7 ⟨rfl, hB7⟩
      go_wp2
      go_ret
      exact ⟨rfl, below_call h7 h7.size hB7⟩
    · go_wp2_with fail
      refine (hbo _).mono ?_
      rintro e w7 ⟨rfl, hB7⟩
      go_wp2
      go_ret
      exact ⟨rfl, below_call h7 h7.size hB7⟩
  · have hi0 : 0 ≤ i := by omega
    obtain ⟨m, rfl⟩ := Int.eq_ofNat_of_zero_le hi0
    have hi1 : m ≤ 255 := by omega
    clear hi hi0
    have hd0 : decide ((m : Int) < 0) = false := by rw [decide_eq_false_iff_not]; omega
    have hd1 : decide (255 < (m : Int)) = false := by rw [decide_eq_false_iff_not]; omega
    go_wp2_with fail
    have y1 : IntKind.i64.wrap ((m : Int) / 8) = (m : Int) / 8 := IntWalk.i64_in _ (by omega)
    have y2 : IntKind.i64.wrap (31 - (m : Int) / 8) = 31 - (m : Int) / 8 := IntWalk.i64_in _ (by omega)
    have y3 : (31 - (m : Int) / 8).toNat = 31 - m / 8 := by omega
    have y4 : (0 : Int) ≤ 31 - (m : Int) / 8 := by omega
    have y5 : (m : Int) / 8 ≤ 31 := by omega
    have y6 : (31 - (m : Int) / 8) < 32 := by omega
    have y7 : (m : Int).tmod 8 = (m : Int) % 8 := Int.tmod_eq_emod_of_nonneg (by omega)
    have y8 : (0 : Int) ≤ (m : Int) % 8 := by omega
    have y9 : ((m : Int) % 8).toNat = m % 8 := by omega
    have y10 := bit_at8 n m
    have b1 := Bt_D_le n m
    have y11 : IntKind.u32.wrap (Bt.D n m : Int) = (Bt.D n m : Int) := by simp [IntKind.wrap, IntKind.bits, IntKind.signed]; omega
    have cx : (w6.alloc (Obj.cells (byts 0) 40)).cell? ⟨w2.heap.size, 31 - m / 8, none⟩ = some (.int .u8 (B8 n (m / 8) : Int)) := by
      rw [World.cell?_alloc_past _ _ _ s8, row_int (show w6.row? w2.heap.size = some (byts n) from q8) _ (by rw [bl_len]; omega), at', bl_get _ _ (by omega), show 31 - (31 - m / 8) = m / 8 from by omega]
    have H7 := Lib.hid h7
    clear h7
    refine wp_region_steps (fun S a' w' => ∃ (_u : Unit), a' = ⟨((Value.agg (num n)) :: (Value.slice a len cap) :: (Value.int IntKind.i64 ↑m) :: (Value.pointer (some { block := w.heap.size, off := 0 })) :: undef :: undef :: (if S 14 = true then .bool true else (Value.bool false)) :: (Value.pointer (some { block := w2.heap.size, off := 0 })) :: (Value.pointer (some { block := w3.heap.size, off := 0 })) :: (Value.int IntKind.i64 0) :: (Value.pointer (some { block := w4.heap.size, off := 0 })) :: (Value.int IntKind.i64 2) :: (Value.pointer (some { block := w6.heap.size, off := 0 })) :: (Value.bool true) :: (Value.bool false) :: (Value.agg (num n)) :: (Value.agg (byts n)) :: (Value.tuple #[Value.agg (num n), Value.int IntKind.i64 0]) :: (Value.slice (some { block := w2.heap.size, off := 0 }) 32 32) :: (Value.tuple #[Value.agg (num n), Value.int IntKind.i64 0]) :: (Value.agg (num n)) :: (Value.int IntKind.i64 0) :: (Value.tuple #[Value.agg (num 0), Value.int IntKind.i64 2]) :: (Value.slice a len cap) :: (Value.tuple #[Value.agg (num 0), Value.int IntKind.i64 2]) :: (Value.agg (num 0)) :: (Value.int IntKind.i64 2) :: (Value.int IntKind.i64 0) :: (Value.bool false) :: (Value.bool false) :: (Value.agg (num n)) :: (Value.agg (num n)) :: (Value.bool false) :: (Value.bool false) :: (Value.bool false) :: (Value.int IntKind.i64 2) :: (Value.bool false) :: (Value.slice a len cap) :: (Value.int IntKind.i64 ↑len) :: (Value.bool false) :: (Value.bool false) :: (Value.bool false) :: (Value.bool false) :: (Value.int IntKind.i64 2) :: (Value.bool true) :: (Value.bool true) :: (Value.int IntKind.i64 2) :: (Value.bool false) :: (Value.bool false) :: (Value.agg (num 0)) :: (Value.bool true) :: (Value.bool false) :: (Value.bool false) :: (Value.bool false) :: (Value.bool false) :: (Value.agg (num 0)) :: (Value.agg (byts 0)) :: (Value.int IntKind.i64 2) :: (Value.bool false) :: (Value.bool false) :: undef :: undef :: undef :: undef :: undef :: (Value.bool false) :: (Value.int IntKind.i64 ↑m) :: (Value.bool false) :: (Value.bool false) :: (Value.int IntKind.i64 ↑m) :: (Value.bool false) :: (Value.bool false) :: undef :: undef :: undef :: undef :: (if S 0 = true then .agg (num n) else undef) :: (if S 1 = true then .int .i64 (m : Int) else undef) :: (if S 2 = true then .int .u32 (Bt.D n m) else undef) :: (if S 3 = true then .int .i64 (m : Int) else undef) :: (if S 4 = true then .int .i64 ((m : Int) / 8) else undef) :: (if S 5 = true then .int .i64 (31 - (m : Int) / 8) else undef) :: (if S 6 = true then .pointer (some ⟨w2.heap.size, 31 - m / 8, none⟩) else undef) :: (if S 7 = true then .int .u8 (B8 n (m / 8)) else undef) :: (if S 8 = true then .int .i64 (m : Int) else undef) :: (if S 9 = true then .int .i64 ((m : Int) % 8) else undef) :: (if S 10 = true then .int .u8 ((B8 n (m / 8) : Int) / 2 ^ (m % 8)) else undef) :: (if S 11 = true then .int .u8 (Bt.D n m) else undef) :: (if S 12 = true then .int .u32 (Bt.D n m) else undef) :: (if S 13 = true then .bool true else undef) :: []).toArray, []⟩ ∧ Hid (True) ∧ Below (w6.heap.size + 1) ((w6.alloc (.cells (byts 0) 40)).drewN nq) w') rfl (by kernel_rfl) ?h0 ?hs ?he
    case h0 =>
      refine ⟨(), rfl, trivial, (Below.refl _ _).drew⟩
    case hs =>
      refine ⟨?_, ?_, ?_, ?_, ?_, ?_, ?_, ?_, ?_, ?_, ?_, ?_, ?_, ?_, ?_, trivial⟩
      · rintro S a' w' hi hp ⟨_u, rfl, hr, hB⟩ K hK
        change S 0 = false at hi
        clear hp
        have r := fun b hb => row_below hB b hb
        have rc := fun b i hb => hB.cell (p := ⟨b, i, none⟩) hb
        clear hi
        go_simp
        exact hK _ _ ⟨(), by simp [upd], trivial, hB⟩
      · rintro S a' w' hi hp ⟨_u, rfl, hr, hB⟩ K hK
        change S 1 = false at hi
        clear hp
        have r := fun b hb => row_below hB b hb
        have rc := fun b i hb => hB.cell (p := ⟨b, i, none⟩) hb
        clear hi
        go_simp
        exact hK _ _ ⟨(), by simp [upd], trivial, hB⟩
      · rintro S a' w' hi hp ⟨_u, rfl, hr, hB⟩ K hK
        change S 2 = false at hi
        obtain ⟨e0, e1⟩ := preds_conj hp (l := [0, 1]) rfl
        change S 1 = true at e1
        clear hp
        clear hi
        go_simp
        refine (bit_any _ _ hi1 _).mono ?_
        rintro e w1 ⟨rfl, hB1⟩
        refine hK _ _ ⟨_u, by simp [upd, Act.put, e0, e1], trivial, below_call hB (Nat.le_trans (by simp; try omega) hB.size) hB1⟩
      · rintro S a' w' hi hp ⟨_u, rfl, hr, hB⟩ K hK
        change S 3 = false at hi
        clear hp
        have r := fun b hb => row_below hB b hb
        have rc := fun b i hb => hB.cell (p := ⟨b, i, none⟩) hb
        clear hi
        go_simp
        exact hK _ _ ⟨(), by simp [upd], trivial, hB⟩
      · rintro S a' w' hi hp ⟨_u, rfl, hr, hB⟩ K hK
        change S 4 = false at hi
        have e3 := preds_conj hp (l := [3]) rfl
        change S 3 = true at e3
        clear hp
        have r := fun b hb => row_below hB b hb
        have rc := fun b i hb => hB.cell (p := ⟨b, i, none⟩) hb
        clear hi
        go_simp
        exact hK _ _ ⟨(), by simp [upd, e3], trivial, hB⟩
      · rintro S a' w' hi hp ⟨_u, rfl, hr, hB⟩ K hK
        change S 5 = false at hi
        have e4 := preds_conj hp (l := [4]) rfl
        change S 4 = true at e4
        clear hp
        have r := fun b hb => row_below hB b hb
        have rc := fun b i hb => hB.cell (p := ⟨b, i, none⟩) hb
        clear hi
        go_simp
        exact hK _ _ ⟨(), by simp [upd, e4], trivial, hB⟩
      · rintro S a' w' hi hp ⟨_u, rfl, hr, hB⟩ K hK
        change S 6 = false at hi
        have e5 := preds_conj hp (l := [5]) rfl
        change S 5 = true at e5
        clear hp
        have r := fun b hb => row_below hB b hb
        have rc := fun b i hb => hB.cell (p := ⟨b, i, none⟩) hb
        clear hi
        go_simp
        exact hK _ _ ⟨(), by simp [upd, e5], trivial, hB⟩
      · rintro S a' w' hi hp ⟨_u, rfl, hr, hB⟩ K hK
        change S 7 = false at hi
        have e6 := preds_conj hp (l := [6]) rfl
        change S 6 = true at e6
        clear hp
        have r := fun b hb => row_below hB b hb
        have rc := fun b i hb => hB.cell (p := ⟨b, i, none⟩) hb
        clear hi
        go_simp
        exact hK _ _ ⟨(), by simp [upd, e6], trivial, hB⟩
      · rintro S a' w' hi hp ⟨_u, rfl, hr, hB⟩ K hK
        change S 8 = false at hi
        clear hp
        have r := fun b hb => row_below hB b hb
        have rc := fun b i hb => hB.cell (p := ⟨b, i, none⟩) hb
        clear hi
        go_simp
        exact hK _ _ ⟨(), by simp [upd], trivial, hB⟩
      · rintro S a' w' hi hp ⟨_u, rfl, hr, hB⟩ K hK
        change S 9 = false at hi
        have e8 := preds_conj hp (l := [8]) rfl
        change S 8 = true at e8
        clear hp
        have r := fun b hb => row_below hB b hb
        have rc := fun b i hb => hB.cell (p := ⟨b, i, none⟩) hb
        clear hi
        go_simp
        exact hK _ _ ⟨(), by simp [upd, e8], trivial, hB⟩
      · rintro S a' w' hi hp ⟨_u, rfl, hr, hB⟩ K hK
        change S 10 = false at hi
        obtain ⟨e7, e9⟩ := preds_conj hp (l := [7, 9]) rfl
        change S 9 = true at e9
        clear hp
        have r := fun b hb => row_below hB b hb
        have rc := fun b i hb => hB.cell (p := ⟨b, i, none⟩) hb
        clear hi
        go_simp
        exact hK _ _ ⟨(), by simp [upd, e7, e9], trivial, hB⟩
      · rintro S a' w' hi hp ⟨_u, rfl, hr, hB⟩ K hK
        change S 11 = false at hi
        have e10 := preds_conj hp (l := [10]) rfl
        change S 10 = true at e10
        clear hp
        have r := fun b hb => row_below hB b hb
        have rc := fun b i hb => hB.cell (p := ⟨b, i, none⟩) hb
        clear hi
        go_simp
        exact hK _ _ ⟨(), by simp [upd, e10], trivial, hB⟩
      · rintro S a' w' hi hp ⟨_u, rfl, hr, hB⟩ K hK
        change S 12 = false at hi
        have e11 := preds_conj hp (l := [11]) rfl
        change S 11 = true at e11
        clear hp
        have r := fun b hb => row_below hB b hb
        have rc := fun b i hb => hB.cell (p := ⟨b, i, none⟩) hb
        clear hi
        go_simp
        exact hK _ _ ⟨(), by simp [upd, e11], trivial, hB⟩
      · rintro S a' w' hi hp ⟨_u, rfl, hr, hB⟩ K hK
        change S 13 = false at hi
        obtain ⟨e2, e12⟩ := preds_conj hp (l := [2, 12]) rfl
        change S 12 = true at e12
        clear hp
        have r := fun b hb => row_below hB b hb
        have rc := fun b i hb => hB.cell (p := ⟨b, i, none⟩) hb
        clear hi
        go_simp
        exact hK _ _ ⟨(), by simp [upd, e2, e12], trivial, hB⟩
      · rintro S a' w' hi hp ⟨_u, rfl, hr, hB⟩ K hK
        change S 14 = false at hi
        obtain ⟨e13, e2, e0, e1, e3, e4, e5, e6, e7, e8, e9, e10, e11, e12⟩ := preds_conj hp (l := [13, 2, 0, 1, 3, 4, 5, 6, 7, 8, 9, 10, 11, 12]) rfl
        change S 12 = true at e12
        clear hp
        have r := fun b hb => row_below hB b hb
        have rc := fun b i hb => hB.cell (p := ⟨b, i, none⟩) hb
        clear hi
        go_simp
        exact hK _ _ ⟨(), by simp [upd, e13, e2, e0, e1, e3, e4, e5, e6, e7, e8, e9, e10, e11, e12], trivial, hB⟩
    case he =>
      rintro a' wr ⟨_u, rfl, hr, hB⟩
      simp only [Nat.reduceLT, List.length_cons, List.length_nil, Nat.reduceAdd, decide_true, if_true]
      go_wp2
      go_ret
      exact ⟨rfl, H7.out.trans (hB.mono (Nat.le_trans hz6 (Nat.le_succ _)))⟩
set_option maxRecDepth 100000 in
set_option maxHeartbeats 3200000 in
theorem lbytes_ok (n k b off cap : Nat) (i : Int) (w : World) (hc : ∀ i, i < 32 → w.cell? ⟨b, off + i, none⟩ = some (.int .u8 (B8 k (31 - i) : Int))) (hb : b < w.heap.size) :
    Calls Try.prog 6 #[.agg (num n), .slice (some ⟨b, off, none⟩) 32 cap, .int .i64 i] w fun e w' => e = .returned (.bool true) ∧ Below w.heap.size w w' := by
  have he := fun w x => eqTs w x
  have HC : Hid (∀ i, i < 32 → w.cell? ⟨b, off + i, none⟩ = some (.int .u8 (B8 k (31 - i) : Int))) := hc
  clear hc
  have hr : Hid (∀ w1, Below w.heap.size w w1 → Calls Try.prog 18 #[.slice (some ⟨b, off, none⟩) 32 cap] w1 fun e w' => e = .returned (.tuple #[.agg (num k), .int .i64 0]) ∧ Below w1.heap.size w1 w') :=
    fun w1 h => read_any k b off cap w1 (fun i hi => (h.cell (p := ⟨b, off + i, none⟩) hb).trans (HC.out i hi)) (Nat.lt_of_lt_of_le hb h.size)
  go_enter Try.func6, Try.ntmps6
  go_wp2_with fail
  refine (fit_any _).mono ?_
  rintro e w1 ⟨rfl, hB1⟩
  obtain ⟨⟨q0, s0⟩, -⟩ := RowsOf.keep hB1 (l := [(w.heap.size, num n)]) (by go_simp)
  go_wp2_with fail
  refine (bytes_any _ _).mono ?_
  rintro e w2 ⟨rfl, hB2⟩
  obtain ⟨⟨q1, s1⟩, -⟩ := RowsOf.keep hB2 (l := [(w.heap.size, num n)]) (by go_simp)
  clear q0
  go_wp2_with fail
  refine (read_any n _ 0 32 _ (byts_cells (by go_simp)) (by go_simp)).mono ?_
  rintro e w3 ⟨rfl, hB3⟩
  obtain ⟨⟨q2, s2⟩, ⟨q3, s3⟩, -⟩ := RowsOf.keep hB3 (l := [(w.heap.size, num n), (w2.heap.size, byts n)]) (by go_simp)
  clear q1
  have h0 := (Below.refl w.heap.size w).alloc (Nat.le_refl _) (.cells (num n) 24)
  have h1 := below_call h0 h0.size hB1
  have h2 := (below_call h1 h1.size hB2).alloc (Nat.le_trans h1.size hB2.size) (.cells (byts n) 40)
  have h3 := (below_call h2 h2.size hB3).alloc (Nat.le_trans h2.size hB3.size) (.cells (num n) 24)
  clear h0 h1 h2 hB1 hB2 hB3
  go_wp2_with fail
  refine (hr.out _ h3).mono ?_
  rintro e w5 ⟨rfl, hB4⟩
  obtain ⟨⟨q4, s4⟩, ⟨q5, s5⟩, ⟨q6, s6⟩, -⟩ := RowsOf.keep hB4 (l := [(w.heap.size, num n), (w2.heap.size, byts n), (w3.heap.size, num n)]) (by go_simp)
  clear q2 q3
  have h5 := (below_call h3 h3.size hB4).alloc (Nat.le_trans h3.size hB4.size) (.cells (num k) 24)
  clear h3 hB4
  go_wp2_with fail
  refine (bytes_any _ _).mono ?_
  rintro e w6 ⟨rfl, hB6⟩
  obtain ⟨⟨q7, s7⟩, ⟨q8, s8⟩, -⟩ := RowsOf.keep hB6 (l := [(w.heap.size, num n), (w2.heap.size, byts n)]) (by go_simp)
  clear q4 q5 q6
  have h6 := (below_call h5 h5.size hB6).alloc (Nat.le_trans h5.size hB6.size) (.cells (byts k) 40)
  have hz6 : w.heap.size ≤ w6.heap.size := Nat.le_trans h5.size hB6.size
  clear h5 hB6
  have v1 : ∀ nq, Sem.run Try.prog (convert 39 9 (.slice (some ⟨w6.heap.size, 0, none⟩) 32 32)) ((w6.alloc (.cells (byts k) 40)).drewN nq) = .ok (.string (strOfNums (bl k))) ((w6.alloc (.cells (byts k) 40)).drewN nq) := fun nq =>
    run_convert_bytes_arg _ 39 5 Try.underlying39 Try.underlying5 _ 0 32 32 (bl k) (bl_len k) (fun i hi => by rw [bl_get _ _ hi]; exact byts_cells (w := (w6.alloc (.cells (byts k) 40)).drewN nq) (by rw [row_drewN]; exact row_alloc_at _ _ _ _ rfl) i hi) 9 Try.underlying9
  have v2 : ∀ nq, Sem.run Try.prog (convert 39 9 (.slice (some ⟨b, off, none⟩) 32 cap)) ((w6.alloc (.cells (byts k) 40)).drewN nq) = .ok (.string (strOfNums (bl k))) ((w6.alloc (.cells (byts k) 40)).drewN nq) := fun nq =>
    run_convert_bytes_arg _ 39 5 Try.underlying39 Try.underlying5 b off 32 cap (bl k) (bl_len k) (fun i hi => by rw [bl_get _ _ hi]; exact (h6.cell (p := ⟨b, off + i, none⟩) hb).trans (HC.out i hi)) 9 Try.underlying9
  go_wp2_with fail
  go_quiet (fail)
  have h7 := below_drewN' h6 nq
  clear h6
  by_cases hi : i < 0 ∨ 255 < i
  · have hbo := fun w => bit_out n i hi w
    rcases hi with hi | hi
    · go_wp2_with fail
      refine (hbo _).mono ?_
      rintro e w7 ⟨rfl, hB7⟩
      go_wp2
      go_ret
      exact ⟨rfl, below_call h7 h7.size hB7⟩
    · go_wp2_with fail
      refine (hbo _).mono ?_
      rintro e w7 ⟨rfl, hB7⟩
      go_wp2
      go_ret
      exact ⟨rfl, below_call h7 h7.size hB7⟩
  · have hi0 : 0 ≤ i := by omega
    obtain ⟨m, rfl⟩ := Int.eq_ofNat_of_zero_le hi0
    have hi1 : m ≤ 255 := by omega
    clear hi hi0
    have hd0 : decide ((m : Int) < 0) = false := by rw [decide_eq_false_iff_not]; omega
    have hd1 : decide (255 < (m : Int)) = false := by rw [decide_eq_false_iff_not]; omega
    go_wp2_with fail
    have y1 : IntKind.i64.wrap ((m : Int) / 8) = (m : Int) / 8 := IntWalk.i64_in _ (by omega)
    have y2 : IntKind.i64.wrap (31 - (m : Int) / 8) = 31 - (m : Int) / 8 := IntWalk.i64_in _ (by omega)
    have y3 : (31 - (m : Int) / 8).toNat = 31 - m / 8 := by omega
    have y4 : (0 : Int) ≤ 31 - (m : Int) / 8 := by omega
    have y5 : (m : Int) / 8 ≤ 31 := by omega
    have y6 : (31 - (m : Int) / 8) < 32 := by omega
    have y7 : (m : Int).tmod 8 = (m : Int) % 8 := Int.tmod_eq_emod_of_nonneg (by omega)
    have y8 : (0 : Int) ≤ (m : Int) % 8 := by omega
    have y9 : ((m : Int) % 8).toNat = m % 8 := by omega
    have y10 := bit_at8 n m
    have b1 := Bt_D_le n m
    have y11 : IntKind.u32.wrap (Bt.D n m : Int) = (Bt.D n m : Int) := by simp [IntKind.wrap, IntKind.bits, IntKind.signed]; omega
    have cx : (w6.alloc (Obj.cells (byts k) 40)).cell? ⟨w2.heap.size, 31 - m / 8, none⟩ = some (.int .u8 (B8 n (m / 8) : Int)) := by
      rw [World.cell?_alloc_past _ _ _ s8, row_int (show w6.row? w2.heap.size = some (byts n) from q8) _ (by rw [bl_len]; omega), at', bl_get _ _ (by omega), show 31 - (31 - m / 8) = m / 8 from by omega]
    have H7 := Lib.hid h7
    clear h7
    refine wp_region_steps (fun S a' w' => ∃ (_u : Unit), a' = ⟨((Value.agg (num n)) :: (Value.slice (some { block := b, off := off }) 32 cap) :: (Value.int IntKind.i64 ↑m) :: (Value.pointer (some { block := w.heap.size, off := 0 })) :: undef :: undef :: (if S 14 = true then .bool true else (Value.bool false)) :: (Value.pointer (some { block := w2.heap.size, off := 0 })) :: (Value.pointer (some { block := w3.heap.size, off := 0 })) :: (Value.int IntKind.i64 0) :: (Value.pointer (some { block := w5.heap.size, off := 0 })) :: (Value.int IntKind.i64 0) :: (Value.pointer (some { block := w6.heap.size, off := 0 })) :: (Value.bool true) :: (Value.bool false) :: (Value.agg (num n)) :: (Value.agg (byts n)) :: (Value.tuple #[Value.agg (num n), Value.int IntKind.i64 0]) :: (Value.slice (some { block := w2.heap.size, off := 0 }) 32 32) :: (Value.tuple #[Value.agg (num n), Value.int IntKind.i64 0]) :: (Value.agg (num n)) :: (Value.int IntKind.i64 0) :: (Value.tuple #[Value.agg (num k), Value.int IntKind.i64 0]) :: (Value.slice (some { block := b, off := off }) 32 cap) :: (Value.tuple #[Value.agg (num k), Value.int IntKind.i64 0]) :: (Value.agg (num k)) :: (Value.int IntKind.i64 0) :: (Value.int IntKind.i64 0) :: (Value.bool false) :: (Value.bool false) :: (Value.agg (num n)) :: (Value.agg (num n)) :: (Value.bool false) :: (Value.bool false) :: (Value.bool false) :: (Value.int IntKind.i64 0) :: (Value.bool true) :: (Value.slice (some { block := b, off := off }) 32 cap) :: (Value.int IntKind.i64 32) :: (Value.bool true) :: (Value.bool false) :: (Value.bool false) :: (Value.bool false) :: (Value.int IntKind.i64 0) :: (Value.bool false) :: (Value.bool false) :: undef :: undef :: undef :: undef :: undef :: undef :: undef :: (Value.bool false) :: (Value.bool false) :: (Value.agg (num k)) :: (Value.agg (byts k)) :: (Value.int IntKind.i64 0) :: (Value.bool true) :: (Value.bool true) :: (Value.slice (some { block := w6.heap.size, off := 0 }) 32 32) :: (Value.string (strOfNums (bl k))) :: (Value.slice (some { block := b, off := off }) 32 cap) :: (Value.string (strOfNums (bl k))) :: (Value.bool false) :: (Value.bool false) :: (Value.int IntKind.i64 ↑m) :: (Value.bool false) :: (Value.bool false) :: (Value.int IntKind.i64 ↑m) :: (Value.bool false) :: (Value.bool false) :: undef :: undef :: undef :: undef :: (if S 0 = true then .agg (num n) else undef) :: (if S 1 = true then .int .i64 (m : Int) else undef) :: (if S 2 = true then .int .u32 (Bt.D n m) else undef) :: (if S 3 = true then .int .i64 (m : Int) else undef) :: (if S 4 = true then .int .i64 ((m : Int) / 8) else undef) :: (if S 5 = true then .int .i64 (31 - (m : Int) / 8) else undef) :: (if S 6 = true then .pointer (some ⟨w2.heap.size, 31 - m / 8, none⟩) else undef) :: (if S 7 = true then .int .u8 (B8 n (m / 8)) else undef) :: (if S 8 = true then .int .i64 (m : Int) else undef) :: (if S 9 = true then .int .i64 ((m : Int) % 8) else undef) :: (if S 10 = true then .int .u8 ((B8 n (m / 8) : Int) / 2 ^ (m % 8)) else undef) :: (if S 11 = true then .int .u8 (Bt.D n m) else undef) :: (if S 12 = true then .int .u32 (Bt.D n m) else undef) :: (if S 13 = true then .bool true else undef) :: []).toArray, []⟩ ∧ Hid (True) ∧ Below (w6.heap.size + 1) ((w6.alloc (.cells (byts k) 40)).drewN nq) w') rfl (by kernel_rfl) ?h0 ?hs ?he
    case h0 =>
      refine ⟨(), rfl, trivial, (Below.refl _ _).drew⟩
    case hs =>
      refine ⟨?_, ?_, ?_, ?_, ?_, ?_, ?_, ?_, ?_, ?_, ?_, ?_, ?_, ?_, ?_, trivial⟩
      · rintro S a' w' hi hp ⟨_u, rfl, hr, hB⟩ K hK
        change S 0 = false at hi
        clear hp
        have r := fun b hb => row_below hB b hb
        have rc := fun b i hb => hB.cell (p := ⟨b, i, none⟩) hb
        clear hi
        go_simp
        exact hK _ _ ⟨(), by simp [upd], trivial, hB⟩
      · rintro S a' w' hi hp ⟨_u, rfl, hr, hB⟩ K hK
        change S 1 = false at hi
        clear hp
        have r := fun b hb => row_below hB b hb
        have rc := fun b i hb => hB.cell (p := ⟨b, i, none⟩) hb
        clear hi
        go_simp
        exact hK _ _ ⟨(), by simp [upd], trivial, hB⟩
      · rintro S a' w' hi hp ⟨_u, rfl, hr, hB⟩ K hK
        change S 2 = false at hi
        obtain ⟨e0, e1⟩ := preds_conj hp (l := [0, 1]) rfl
        change S 1 = true at e1
        clear hp
        clear hi
        go_simp
        refine (bit_any _ _ hi1 _).mono ?_
        rintro e w1 ⟨rfl, hB1⟩
        refine hK _ _ ⟨_u, by simp [upd, Act.put, e0, e1], trivial, below_call hB (Nat.le_trans (by simp; try omega) hB.size) hB1⟩
      · rintro S a' w' hi hp ⟨_u, rfl, hr, hB⟩ K hK
        change S 3 = false at hi
        clear hp
        have r := fun b hb => row_below hB b hb
        have rc := fun b i hb => hB.cell (p := ⟨b, i, none⟩) hb
        clear hi
        go_simp
        exact hK _ _ ⟨(), by simp [upd], trivial, hB⟩
      · rintro S a' w' hi hp ⟨_u, rfl, hr, hB⟩ K hK
        change S 4 = false at hi
        have e3 := preds_conj hp (l := [3]) rfl
        change S 3 = true at e3
        clear hp
        have r := fun b hb => row_below hB b hb
        have rc := fun b i hb => hB.cell (p := ⟨b, i, none⟩) hb
        clear hi
        go_simp
        exact hK _ _ ⟨(), by simp [upd, e3], trivial, hB⟩
      · rintro S a' w' hi hp ⟨_u, rfl, hr, hB⟩ K hK
        change S 5 = false at hi
        have e4 := preds_conj hp (l := [4]) rfl
        change S 4 = true at e4
        clear hp
        have r := fun b hb => row_below hB b hb
        have rc := fun b i hb => hB.cell (p := ⟨b, i, none⟩) hb
        clear hi
        go_simp
        exact hK _ _ ⟨(), by simp [upd, e4], trivial, hB⟩
      · rintro S a' w' hi hp ⟨_u, rfl, hr, hB⟩ K hK
        change S 6 = false at hi
        have e5 := preds_conj hp (l := [5]) rfl
        change S 5 = true at e5
        clear hp
        have r := fun b hb => row_below hB b hb
        have rc := fun b i hb => hB.cell (p := ⟨b, i, none⟩) hb
        clear hi
        go_simp
        exact hK _ _ ⟨(), by simp [upd, e5], trivial, hB⟩
      · rintro S a' w' hi hp ⟨_u, rfl, hr, hB⟩ K hK
        change S 7 = false at hi
        have e6 := preds_conj hp (l := [6]) rfl
        change S 6 = true at e6
        clear hp
        have r := fun b hb => row_below hB b hb
        have rc := fun b i hb => hB.cell (p := ⟨b, i, none⟩) hb
        clear hi
        go_simp
        exact hK _ _ ⟨(), by simp [upd, e6], trivial, hB⟩
      · rintro S a' w' hi hp ⟨_u, rfl, hr, hB⟩ K hK
        change S 8 = false at hi
        clear hp
        have r := fun b hb => row_below hB b hb
        have rc := fun b i hb => hB.cell (p := ⟨b, i, none⟩) hb
        clear hi
        go_simp
        exact hK _ _ ⟨(), by simp [upd], trivial, hB⟩
      · rintro S a' w' hi hp ⟨_u, rfl, hr, hB⟩ K hK
        change S 9 = false at hi
        have e8 := preds_conj hp (l := [8]) rfl
        change S 8 = true at e8
        clear hp
        have r := fun b hb => row_below hB b hb
        have rc := fun b i hb => hB.cell (p := ⟨b, i, none⟩) hb
        clear hi
        go_simp
        exact hK _ _ ⟨(), by simp [upd, e8], trivial, hB⟩
      · rintro S a' w' hi hp ⟨_u, rfl, hr, hB⟩ K hK
        change S 10 = false at hi
        obtain ⟨e7, e9⟩ := preds_conj hp (l := [7, 9]) rfl
        change S 9 = true at e9
        clear hp
        have r := fun b hb => row_below hB b hb
        have rc := fun b i hb => hB.cell (p := ⟨b, i, none⟩) hb
        clear hi
        go_simp
        exact hK _ _ ⟨(), by simp [upd, e7, e9], trivial, hB⟩
      · rintro S a' w' hi hp ⟨_u, rfl, hr, hB⟩ K hK
        change S 11 = false at hi
        have e10 := preds_conj hp (l := [10]) rfl
        change S 10 = true at e10
        clear hp
        have r := fun b hb => row_below hB b hb
        have rc := fun b i hb => hB.cell (p := ⟨b, i, none⟩) hb
        clear hi
        go_simp
        exact hK _ _ ⟨(), by simp [upd, e10], trivial, hB⟩
      · rintro S a' w' hi hp ⟨_u, rfl, hr, hB⟩ K hK
        change S 12 = false at hi
        have e11 := preds_conj hp (l := [11]) rfl
        change S 11 = true at e11
        clear hp
        have r := fun b hb => row_below hB b hb
        have rc := fun b i hb => hB.cell (p := ⟨b, i, none⟩) hb
        clear hi
        go_simp
        exact hK _ _ ⟨(), by simp [upd, e11], trivial, hB⟩
      · rintro S a' w' hi hp ⟨_u, rfl, hr, hB⟩ K hK
        change S 13 = false at hi
        obtain ⟨e2, e12⟩ := preds_conj hp (l := [2, 12]) rfl
        change S 12 = true at e12
        clear hp
        have r := fun b hb => row_below hB b hb
        have rc := fun b i hb => hB.cell (p := ⟨b, i, none⟩) hb
        clear hi
        go_simp
        exact hK _ _ ⟨(), by simp [upd, e2, e12], trivial, hB⟩
      · rintro S a' w' hi hp ⟨_u, rfl, hr, hB⟩ K hK
        change S 14 = false at hi
        obtain ⟨e13, e2, e0, e1, e3, e4, e5, e6, e7, e8, e9, e10, e11, e12⟩ := preds_conj hp (l := [13, 2, 0, 1, 3, 4, 5, 6, 7, 8, 9, 10, 11, 12]) rfl
        change S 12 = true at e12
        clear hp
        have r := fun b hb => row_below hB b hb
        have rc := fun b i hb => hB.cell (p := ⟨b, i, none⟩) hb
        clear hi
        go_simp
        exact hK _ _ ⟨(), by simp [upd, e13, e2, e0, e1, e3, e4, e5, e6, e7, e8, e9, e10, e11, e12], trivial, hB⟩
    case he =>
      rintro a' wr ⟨_u, rfl, hr, hB⟩
      simp only [Nat.reduceLT, List.length_cons, List.length_nil, Nat.reduceAdd, decide_true, if_true]
      go_wp2
      go_ret
      exact ⟨rfl, H7.out.trans (hB.mono (Nat.le_trans hz6 (Nat.le_succ _)))⟩
end Go.Proofs.L
