/- Proved here: lemmas and contracts (Write) for the laws of this seat, for all values of the stated types; no further condition. -/
import Derived.Test.YtaoocfemgkjcnaaDoorBlock
open Go Go.RowKit Go.Lib
namespace Go.Proofs.L
attribute [local irreducible] wpT
/-! a hash under way: what is written -/
structure St where
  h : List Nat
  p : List Nat
  n : Nat
def stepS (s : St) (c : Nat) : St :=
  ⟨if (s.n + 1) % 64 = 0 then blockN s.h (s.p.set (s.n % 64) c) else s.h, s.p.set (s.n % 64) c, s.n + 1⟩
def writeS (s : St) (L : List Nat) : St := L.foldl stepS s
theorem writeS_app (s : St) (A B : List Nat) : writeS s (A ++ B) = writeS (writeS s A) B := by unfold writeS; rw [List.foldl_append]
theorem take_succN (L : List Nat) (k c : Nat) (h : L[k]? = some c) : L.take (k + 1) = L.take k ++ [c] := by rw [List.take_add_one, h]; rfl
theorem writeS_succ (s : St) (L : List Nat) (k c : Nat) (h : L[k]? = some c) : writeS s (L.take (k + 1)) = stepS (writeS s (L.take k)) c := by
  rw [take_succN L k c h, writeS_app]; rfl
theorem writeS_n (s : St) (L : List Nat) : (writeS s L).n = s.n + L.length := by
  unfold writeS
  induction L generalizing s with
  | nil => rfl
  | cons a l ih => rw [List.foldl_cons, ih]; show s.n + 1 + l.length = s.n + (l.length + 1); omega
def BytesAt (w : World) (b o : Nat) (L : List Nat) : Prop := ∀ (j c : Nat), L[j]? = some c → w.cell? ⟨b, o + j, none⟩ = some (.int .u8 (c : Int)) ∧ c < 256
theorem BytesAt.keep {E : List Nat} {w w' : World} {b o : Nat} {L : List Nat} (h : BytesAt w b o L) (hc : Chg E w w') (hE : b ∉ E) : BytesAt w' b o L := fun j c hj => by
  obtain ⟨h1, h2⟩ := h j c hj
  exact ⟨by rw [World.cell?_of_block (w := w) (hc.block b (World.block_lt_of_cell? w _ h1) hE)]; exact h1, h2⟩
theorem hash_pset (h p : List Nat) (n i x : Nat) (hl : h.length = 8) (hp : p.length = 64) (hi : i < 64) : (natL .u32 h ++ hashT p n).toArray.setIfInBounds (8 + i) (.int .u8 (x : Int)) = (natL .u32 h ++ hashT (p.set i x) n).toArray := by
  simp only [natL, List.setIfInBounds_toArray]
  rw [List.set_append_right _ _ (by simp; omega)]
  unfold hashT natL
  rw [List.length_map, hl, show 8 + i - 8 = i by omega, List.set_append_left _ _ (by simp; omega), List.map_set]
theorem hash_n (h p : List Nat) (n : Nat) (hl : h.length = 8) (hp : p.length = 64) : (natL .u32 h ++ hashT p n).toArray[72]? = some (.int .u64 (n : Int)) := by
  unfold hashT natL
  rw [List.getElem?_toArray, List.getElem?_append_right (by simp; omega), List.getElem?_append_right (by simp; omega)]
  simp [hl, hp]
theorem hash_nset (h p : List Nat) (n m : Nat) (hl : h.length = 8) (hp : p.length = 64) : (natL .u32 h ++ hashT p n).toArray.setIfInBounds 72 (.int .u64 (m : Int)) = (natL .u32 h ++ hashT p m).toArray := by
  simp only [natL, List.setIfInBounds_toArray]
  rw [List.set_append_right _ _ (by simp; omega)]
  unfold hashT natL
  rw [List.set_append_right _ _ (by simp; omega)]
  simp [hl, hp]
set_option maxRecDepth 100000 in
set_option maxHeartbeats 1600000 in
theorem write_any {w : World} {b : Nat} {s : St} {pp : Option Addr} {b1 o1 k c : Nat} {L : List Nat} (hH : Hs w b s.h s.p s.n) (hB : BytesAt w b1 o1 L) (hk : L.length = k) (hp : 0 < k → pp = some ⟨b1, o1, none⟩) (hne : 0 < k → b1 ≠ b) (hk2 : k < 1000000) (hn : s.n < 1000000000) (hL : LaidOk w) (hb0 : b ≠ 0) :
    Calls Tryd.prog 10 #[.pointer (some ⟨b, 0, none⟩), .slice pp k c] w fun e w' => e = .returned (.tuple #[]) ∧ Hs w' b (writeS s L).h (writeS s L).p (writeS s L).n ∧ Chg [b] w w' := by
  have HH := Lib.hid hH
  have HB := Lib.hid hB
  have HK := Lib.hid hk
  have HP := Lib.hid hp
  have HNE := Lib.hid hne
  have HK2 := Lib.hid hk2
  have HN := Lib.hid hn
  have HL := Lib.hid hL
  have HB0 := Lib.hid hb0
  clear hH hB hk hp hne hk2 hn hL hb0
  go_enter Tryd.func10, Tryd.ntmps10
  go_wp2_with fail
  go_loopw [10, 5] (fun i _ wr => ∃ j : Nat, j ≤ k ∧ i = .int .i64 j ∧ Hs wr b (writeS s (L.take j)).h (writeS s (L.take j)).p (writeS s (L.take j)).n ∧ Chg [b] w wr) (fun i _ _ => k - (intOf i).toNat)
  case atStart => exact ⟨0, by omega, rfl, HH.out, Chg.refl _ _⟩
  case round =>
    obtain ⟨j, hj, rfl, hs, hch⟩ := hrel
    have HC := Lib.hid hch
    have HS := Lib.hid hs
    clear hch hs
    by_cases hj2 : j < k
    · have HJ := Lib.hid hj2
      have HW : Hid (wrap64 ((j : Int) + 1) = ((j + 1 : Nat) : Int)) := Lib.hid (by have := HK2.out; rw [IntWalk.wrap64_in _ ⟨by omega, by omega⟩]; omega)
      have hpp := HP.out (by omega)
      subst hpp
      obtain ⟨x, hx⟩ : ∃ x, L[j]? = some x := ⟨_, List.getElem?_eq_getElem (by have := HK.out; omega)⟩
      obtain ⟨cx, lx⟩ := (HB.out.keep HC.out (by simp; exact HNE.out (by omega))) j x hx
      have hst := writeS_succ s L j x hx
      have hnn := writeS_n s (L.take j)
      rw [List.length_take] at hnn
      obtain ⟨t, ht⟩ : ∃ t, t = writeS s (L.take j) := ⟨_, rfl⟩
      rw [← ht] at HS hst hnn
      clear ht
      obtain ⟨h, p, n⟩ := t
      simp only [] at HS hnn
      have hnl : n < 2000000000 := by have := HN.out; have := HK2.out; omega
      obtain ⟨m, hm⟩ : ∃ m, m = n % 64 := ⟨_, rfl⟩
      obtain ⟨n1, hn1⟩ : ∃ m, m = n + 1 := ⟨_, rfl⟩
      obtain ⟨m1, hm1⟩ : ∃ m, m = n1 % 64 := ⟨_, rfl⟩
      have e1 : (n : Int) % 64 = (m : Int) := by omega
      have e2 : IntKind.u64.wrap ((n : Int) + 1) = (n1 : Int) := by rw [u64w]; omega
      have e3 : (n1 : Int) % 64 = (m1 : Int) := by omega
      have hm64 : m < 64 := by omega
      have hmI : (m : Int) < 64 := by omega
      have cn : wr.cell? ⟨b, 72, none⟩ = some (.int .u64 (n : Int)) := by rw [row_cell HS.out.row, hash_n h p n HS.out.hl HS.out.pl]
      obtain ⟨y, hy⟩ : ∃ y, y = p.getD m 0 := ⟨_, rfl⟩
      have cp : wr.cell? ⟨b, 8 + m, none⟩ = some (.int .u8 (y : Int)) := by rw [row_cell HS.out.row, hash_p h p n m HS.out.hl HS.out.pl hm64, hy]
      have fp : wr.frozen? ⟨b, 8 + m, none⟩ = false := row_free HS.out.row _
      have fn : wr.frozen? ⟨b, 72, none⟩ = false := row_free HS.out.row _
      have dk : decide ((j : Int) < (k : Int)) = true := by rw [decide_eq_true_eq]; omega
      have hjI : (j : Int) < (k : Int) := by omega
      have hne72 : ¬ 72 = 8 + m := by omega
      -- the world behind both stores
      obtain ⟨X, hX⟩ : ∃ X, X = ((wr.setCell ⟨b, 8 + m, none⟩ (.int .u8 (x : Int))).setCell ⟨b, 72, none⟩ (.int .u64 (n1 : Int))).drew := ⟨_, rfl⟩
      have hrX : X.row? b = some (natL .u32 h ++ hashT (p.set m x) n1).toArray := by
        rw [hX, row_drew, row_setCell_same, row_setCell_same, HS.out.row]
        show some (((natL .u32 h ++ hashT p n).toArray.setIfInBounds (8 + m) (.int .u8 (x : Int))).setIfInBounds 72 (.int .u64 (n1 : Int))) = _
        rw [hash_pset h p n m x HS.out.hl HS.out.pl hm64, hash_nset _ _ _ _ HS.out.hl (by simp; exact HS.out.pl)]
      have HX : Hid (Hs X b h (p.set m x) n1) := Lib.hid ⟨hrX, HS.out.hl, by rw [List.length_set]; exact HS.out.pl, HS.out.hb, set_lt HS.out.pb _ _ lx, by omega⟩
      have HCX : Hid (Chg [b] w X) := Lib.hid (by rw [hX]; exact ((HC.out.setCell (.inl (by simp)) _).setCell (.inl (by simp)) _).drew)
      have HST : Hid (writeS s (L.take (j + 1)) = ⟨if m1 = 0 then blockN h (p.set m x) else h, p.set m x, n1⟩) := Lib.hid (by rw [hst, hm1, hn1, hm]; rfl)
      have e4 : (n : Int).tmod 64 = (m : Int) := by rw [Int.tmod_eq_emod_of_nonneg (by omega)]; exact e1
      have e5 : (n1 : Int).tmod 64 = (m1 : Int) := by rw [Int.tmod_eq_emod_of_nonneg (by omega)]; exact e3
      have HXX := Lib.hid hX
      clear hnn hm hn1 hm1 hst hy hrX hx hX hnl lx
      go_upto_region 4 with (fail)
      refine wp_region_C (fun w' => w'.cell? ⟨b, 72, none⟩ = some (.int .u64 (n : Int))) [(0, 0), (1, 0), (2, 0), (3, 0), (4, 1), (5, 0), (6, 0), (7, 0), (8, 0), (9, 0), (10, 3)] rfl (by kernel_rfl) ?hSA ?hTA
      case hSA => exact cn
      refine wpT_pureD (v := ?_) (some 14) rfl rfl (by rfl) (fun w' => ?_) ?_
      rotate_left
      · (go_simp; try with_reducible rfl)
      try simp only [Act.put, List.setIfInBounds_toArray, List.set_cons_zero, List.set_cons_succ]
      refine wpT_pureD (v := ?_) (some 15) rfl rfl (by rfl) (fun w' => ?_) ?_
      rotate_left
      · (go_simp; try with_reducible rfl)
      try simp only [Act.put, List.setIfInBounds_toArray, List.set_cons_zero, List.set_cons_succ]
      refine wpT_pureD (v := ?_) (some 16) rfl rfl (by rfl) (fun w' => ?_) ?_
      rotate_left
      · (go_simp; try with_reducible rfl)
      try simp only [Act.put, List.setIfInBounds_toArray, List.set_cons_zero, List.set_cons_succ]
      refine wpT_pureD (v := ?_) (some 17) rfl rfl (by rfl) (fun w' => ?_) ?_
      rotate_left
      · (go_simp; try with_reducible rfl)
      try simp only [Act.put, List.setIfInBounds_toArray, List.set_cons_zero, List.set_cons_succ]
      refine wpT_readD (v := ?_) (some 18) rfl rfl (by rfl) (fun w' hw => ?_) ?_
      rotate_left
      · (obtain q0 := hw; go_simp; try with_reducible rfl)
      try simp only [Act.put, List.setIfInBounds_toArray, List.set_cons_zero, List.set_cons_succ]
      refine wpT_pureD (v := ?_) (some 19) rfl rfl (by rfl) (fun w' => ?_) ?_
      rotate_left
      · (go_simp; try with_reducible rfl)
      try simp only [Act.put, List.setIfInBounds_toArray, List.set_cons_zero, List.set_cons_succ]
      refine wpT_pureD (v := ?_) (some 20) rfl rfl (by rfl) (fun w' => ?_) ?_
      rotate_left
      · (go_simp; try with_reducible rfl)
      try simp only [Act.put, List.setIfInBounds_toArray, List.set_cons_zero, List.set_cons_succ]
      refine wpT_pureD (v := ?_) (some 21) rfl rfl (by rfl) (fun w' => ?_) ?_
      rotate_left
      · (go_simp; try with_reducible rfl)
      try simp only [Act.put, List.setIfInBounds_toArray, List.set_cons_zero, List.set_cons_succ]
      refine wpT_pureD (v := ?_) (some 22) rfl rfl (by rfl) (fun w' => ?_) ?_
      rotate_left
      · (go_simp; try with_reducible rfl)
      try simp only [Act.put, List.setIfInBounds_toArray, List.set_cons_zero, List.set_cons_succ]
      refine wpT_pureD (v := ?_) (some 23) rfl rfl (by rfl) (fun w' => ?_) ?_
      rotate_left
      · (go_simp; try with_reducible rfl)
      try simp only [Act.put, List.setIfInBounds_toArray, List.set_cons_zero, List.set_cons_succ]
      refine wpT_brk rfl (by rfl) (fun K hK => ?_)
      go_wp2_with fail
      refine wpT_end ?_
      by_cases h0 : m1 = 0
      · have d0 : ((m1 : Int) == 0) = true := by rw [beq_iff_eq]; omega
        have hblk := block_any HX.out (HL.out.keep HCX.out (by simp; exact fun h => HB0.out h.symm)) HB0.out
        have HBK := Lib.hid hblk
        have HST2 : Hid (writeS s (L.take (j + 1)) = ⟨blockN h (p.set m x), p.set m x, n1⟩) := Lib.hid (by rw [HST.out, if_pos h0])
        go_wp2_with fail
        rw [← HXX.out]
        refine HBK.out.mono ?_
        rintro e w' ⟨rfl, hh2, hc2⟩
        have HH2 := Lib.hid hh2
        have HC2 := Lib.hid (HCX.out.trans hc2)
        clear hh2 hc2
        go_wp2
        case roundEnd => exact ⟨⟨j + 1, HJ.out, by rw [HW.out], by rw [HST2.out]; exact HH2.out, HC2.out⟩, by rw [HW.out]; simp only [intOf, Int.toNat_natCast]; have := HJ.out; omega⟩
      · have d0 : ((m1 : Int) == 0) = false := by rw [Bool.eq_false_iff]; simp; omega
        have HST2 : Hid (writeS s (L.take (j + 1)) = ⟨h, p.set m x, n1⟩) := Lib.hid (by rw [HST.out, if_neg h0])
        go_wp2
        case roundEnd => rw [← HXX.out]; exact ⟨⟨j + 1, HJ.out, by rw [HW.out], by rw [HST2.out]; exact HX.out, HCX.out⟩, by rw [HW.out]; simp only [intOf, Int.toNat_natCast]; have := HJ.out; omega⟩
    · have hjk : j = k := by omega
      have dk : decide ((j : Int) < (k : Int)) = false := by rw [decide_eq_false_iff_not]; omega
      have hfull : L.take j = L := List.take_of_length_le (by have := HK.out; omega)
      have hs := HS.out
      rw [hfull] at hs
      have HS2 := Lib.hid hs
      clear hs hfull hjk
      go_wp2
      go_end0
      exact ⟨rfl, HS2.out, HC.out⟩
end Go.Proofs.L
