/- Proved here: lemmas and contracts (Of) for the laws of this seat, for all values of the stated types; no further condition. -/
import Derived.Test.YtaoocfemgkjcnaaDoorSum
open Go Go.RowKit Go.Lib
namespace Go.Proofs.L
attribute [local irreducible] wpT
theorem BytesAt.lt {w : World} {b o k : Nat} {L : List Nat} (h : BytesAt w b o L) (hk : L.length = k) (h0 : 0 < k) : b < w.heap.size := by
  obtain ⟨h1, _⟩ := h 0 (L[0]'(by omega)) (List.getElem?_eq_getElem _)
  exact World.block_lt_of_cell? w _ h1
theorem s0_n (L : List Nat) : (writeS s0 L).n = L.length := by rw [writeS_n]; exact Nat.zero_add _
set_option maxRecDepth 100000 in
theorem of_any {w : World} {pp : Option Addr} {b1 o1 k c : Nat} {L : List Nat} (hB : BytesAt w b1 o1 L) (hk : L.length = k) (hp : 0 < k → pp = some ⟨b1, o1, none⟩) (hk2 : k < 1000000) (hL : LaidOk w) (hw0 : 0 < w.heap.size) :
    Calls Tryd.prog 7 #[.slice pp k c] w fun e w' => e = .returned (.agg (natL .u8 (sumN (writeS s0 L))).toArray) ∧ Chg [] w w' := by
  obtain ⟨V, hV⟩ : ∃ V, V = w.alloc (.cells z32 24) := ⟨_, rfl⟩
  obtain ⟨B, hB2⟩ : ∃ B, B = w.heap.size := ⟨_, rfl⟩
  obtain ⟨C, hC2⟩ : ∃ C, C = V.heap.size := ⟨_, rfl⟩
  have hVs : C = B + 1 := by rw [hC2, hV, hB2]; exact Array.size_push ..
  have r1 : V.row? B = some z32 := by rw [hV, hB2]; exact row_alloc_at _ _ _ _ rfl
  have hc : Chg [] w V := by rw [hV]; exact (Chg.refl _ _).alloc _
  have hb1 : 0 < k → b1 < B := fun h => by rw [hB2]; exact hB.lt hk h
  have HR1 := Lib.hid r1
  have HC := Lib.hid hc
  have HB := Lib.hid hB2
  have HB1 := Lib.hid hb1
  have HVS := Lib.hid hVs
  have HCC := Lib.hid hC2
  have HBY : Hid (BytesAt V b1 o1 L) := Lib.hid (hB.keep hc (by simp))
  have HL := Lib.hid (hL.keep hc (by simp))
  have HK := Lib.hid hk
  have HK2 := Lib.hid hk2
  have HP := Lib.hid hp
  have HW0 := Lib.hid hw0
  have HV : Hid (V = w.alloc (.cells #[.int .u8 0, .int .u8 0, .int .u8 0, .int .u8 0, .int .u8 0, .int .u8 0, .int .u8 0, .int .u8 0, .int .u8 0, .int .u8 0, .int .u8 0, .int .u8 0, .int .u8 0, .int .u8 0, .int .u8 0, .int .u8 0, .int .u8 0, .int .u8 0, .int .u8 0, .int .u8 0, .int .u8 0, .int .u8 0, .int .u8 0, .int .u8 0, .int .u8 0, .int .u8 0, .int .u8 0, .int .u8 0, .int .u8 0, .int .u8 0, .int .u8 0, .int .u8 0] 24)) := Lib.hid (by rw [hV]; rfl)
  clear r1 hc hB2 hb1 hVs hB hL hk hk2 hp hw0 hV hC2
  go_enter Tryd.func7, Tryd.ntmps7
  go_upto_region 1 with (fail)
  rw [← HB.out, ← HV.out]
  clear HV
  go_wp2_with fail
  refine (new_any V).mono ?_
  rintro e w1 ⟨rfl, hh1, hc1⟩
  rw [← HCC.out] at hh1 ⊢
  have HH1 := Lib.hid hh1
  have HC1 := Lib.hid hc1
  clear hh1 hc1
  go_wp2_with fail
  refine (write_any (L := L) (b1 := b1) (o1 := o1) HH1.out (HBY.out.keep HC1.out (by simp)) HK.out HP.out (fun h => by have := HB1.out h; have := HVS.out; omega) HK2.out (by decide) (HL.out.keep HC1.out (by simp)) (by have := HVS.out; omega)).mono ?_
  rintro e w2 ⟨rfl, hh2, hc2⟩
  have HH2 := Lib.hid hh2
  have HC2 := Lib.hid hc2
  have HC3 : Hid (Chg [] V w2) := Lib.hid (chg_new HC1.out HC2.out (by intro g hg; rw [List.mem_singleton] at hg; subst hg; exact Nat.le_of_eq HCC.out.symm))
  clear hh2 hc2
  go_wp2_with fail
  refine (sum_any HH2.out (by rw [s0_n, HK.out]; have := HK2.out; omega) (HL.out.keep HC3.out (by simp)) (by have := HVS.out; omega)).mono ?_
  rintro e w3 ⟨rfl, hc3⟩
  have HC4 : Hid (Chg [] V w3) := Lib.hid (HC3.out.trans hc3)
  have hz : w3.row? B = some z32 := by rw [HC4.out.row (row_lt HR1.out) (by simp)]; exact HR1.out
  have HZ := Lib.hid hz
  have HLN : Hid ((natL .u8 (sumN (writeS s0 L))).toArray.size = 32) := Lib.hid (by show (natL .u8 (sumN (writeS s0 L))).length = 32; rw [natL_len]; exact outN_len _ _)
  have HON := Lib.hid (natU8_one (sumN (writeS s0 L)))
  clear hc3 hz
  go_wp2_with (refine wpList_store_row a24 _ _ rfl rfl rfl rfl rfl HZ.out rfl HLN.out HON.out ?_)
  refine bodyPost_ret (ret_cell1 (cs := (natL .u8 (sumN (writeS s0 L))).toArray) rfl a24 rfl (by rw [row_setRow, if_pos rfl, HZ.out]; rfl) HLN.out) rfl ⟨rfl, (HC.out.trans HC4.out).setRow (.inr (by rw [HB.out]; exact Nat.le_refl _)) _⟩
end Go.Proofs.L
