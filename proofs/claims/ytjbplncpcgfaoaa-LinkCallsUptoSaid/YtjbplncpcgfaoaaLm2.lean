/- Proved here: lemmas and contracts (Lm2) for the laws of this seat, for all values of the stated types; no further condition. -/
import Derived.Test.YtjbplncpcgfaoaaLm1
open Go Go.RowKit Go.Lib
namespace Go.Proofs.L.M
attribute [local irreducible] wpT
theorem u32w (x : Int) : IntKind.u32.wrap x = x % 4294967296 := by simp [IntKind.wrap, IntKind.bits, IntKind.signed]
theorem addw_wrap {x a z : Nat} (h : z = (x + a) % 4294967296) : IntKind.u32.wrap ((x : Int) + (a : Int)) = (z : Int) := by rw [u32w, h]; omega
def sizeN (t : Int) : Nat := if t = 18 ∨ t = 19 then 8 else if t = 1 ∨ t = 3 ∨ t = 16 ∨ t = 17 ∨ t = 23 ∨ t = 24 ∨ t = 25 ∨ t = 26 ∨ t = 27 ∨ t = 28 then 4 else 0
theorem size_any (t : Int) (w : World) : Calls Try.prog 31 #[.int .i64 t] w fun e w' => e = .returned (.int .u32 ((sizeN t : Nat) : Int)) ∧ w' = w := by
  by_cases h1 : t = 18 ∨ t = 19 ∨ t = 1 ∨ t = 3 ∨ t = 16 ∨ t = 17 ∨ t = 23 ∨ t = 24 ∨ t = 25 ∨ t = 26 ∨ t = 27 ∨ t = 28
  · rcases h1 with rfl | rfl | rfl | rfl | rfl | rfl | rfl | rfl | rfl | rfl | rfl | rfl <;>
    · go_enter Try.func31, Try.ntmps31
      go_wp2
      go_ret
      exact ⟨rfl, rfl⟩
  · have hs : sizeN t = 0 := by unfold sizeN; rw [if_neg (by omega), if_neg (by omega)]
    rw [hs]
    have n1 : ¬ t = 18 := by omega
    have n2 : ¬ t = 19 := by omega
    have n3 : ¬ t = 1 := by omega
    have n4 : ¬ t = 3 := by omega
    have n5 : ¬ t = 16 := by omega
    have n6 : ¬ t = 17 := by omega
    have n7 : ¬ t = 23 := by omega
    have n8 : ¬ t = 24 := by omega
    have n9 : ¬ t = 25 := by omega
    have n10 : ¬ t = 26 := by omega
    have n11 : ¬ t = 27 := by omega
    have n12 : ¬ t = 28 := by omega
    clear h1 hs
    go_enter Try.func31, Try.ntmps31
    go_wp2
    go_ret
    exact ⟨rfl, rfl⟩
end Go.Proofs.L.M
open Go Go.RowKit Go.Lib
namespace Go.Proofs.L.M
attribute [local irreducible] wpT
structure Rl where
  (at_ : Nat) (ty sy : Int) (add : Nat)
structure Sp where
  (st sz : Nat) (rt : Int)
def NatAt (w : World) (k : IntKind) (b o : Nat) (L : List Nat) : Prop := ∀ (j x : Nat), L[j]? = some x → w.cell? ⟨b, o + j, none⟩ = some (.int k (x : Int)) ∧ x < 4294967296
def RlC (r : Rl) : List Value := [.int .u32 (r.at_ : Int), .int .i64 r.ty, .int .i64 r.sy, .int .u32 (r.add : Int)]
def SpC (s : Sp) : List Value := [.int .u32 (s.st : Int), .int .u32 (s.sz : Int), .int .i64 s.rt]
def RlsAt (w : World) (b o : Nat) (L : List Rl) : Prop := ∀ (j : Nat) (r : Rl), L[j]? = some r → (∀ i u, (RlC r)[i]? = some u → w.cell? ⟨b, o + j * 4 + i, none⟩ = some u) ∧ r.at_ < 4294967296 ∧ r.add < 4294967296
def SpsAt (w : World) (b o : Nat) (L : List Sp) : Prop := ∀ (j : Nat) (r : Sp), L[j]? = some r → (∀ i u, (SpC r)[i]? = some u → w.cell? ⟨b, o + j * 3 + i, none⟩ = some u) ∧ r.st < 4294967296 ∧ r.sz < 4294967296
theorem cell_keep {E : List Nat} {w w' : World} {a : Addr} {v : Value} (h : w.cell? a = some v) (hc : Chg E w w') (hE : a.block ∉ E) : w'.cell? a = some v := by
  rw [World.cell?_of_block (w := w) (hc.block a.block (World.block_lt_of_cell? w _ h) hE)]; exact h
theorem NatAt.keep {E : List Nat} {w w' : World} {k : IntKind} {b o : Nat} {L : List Nat} (h : NatAt w k b o L) (hc : Chg E w w') (hE : b ∉ E) : NatAt w' k b o L := fun j x hj => ⟨cell_keep (h j x hj).1 hc hE, (h j x hj).2⟩
theorem RlsAt.keep {E : List Nat} {w w' : World} {b o : Nat} {L : List Rl} (h : RlsAt w b o L) (hc : Chg E w w') (hE : b ∉ E) : RlsAt w' b o L := fun j r hj => ⟨fun i u hu => cell_keep ((h j r hj).1 i u hu) hc hE, (h j r hj).2⟩
theorem SpsAt.keep {E : List Nat} {w w' : World} {b o : Nat} {L : List Sp} (h : SpsAt w b o L) (hc : Chg E w w') (hE : b ∉ E) : SpsAt w' b o L := fun j r hj => ⟨fun i u hu => cell_keep ((h j r hj).1 i u hu) hc hE, (h j r hj).2⟩
structure Jv where
  (e sg : Value) (prl : Option Addr) (brl orl nrl crl : Nat) (psy : Option Addr) (bsy osy nsy csy : Nat) (bias : Nat) (psp : Option Addr) (bsp osp nsp csp : Nat) (m : Value)
def Jv.row (v : Jv) : Array Value := #[v.e, v.sg, .slice v.prl v.nrl v.crl, .slice v.psy v.nsy v.csy, .int .u32 (v.bias : Int), .slice v.psp v.nsp v.csp, v.m]
structure JobOk (w : World) (J : Nat) (v : Jv) (Rs : List Rl) (Ys : List Nat) (Ss : List Sp) : Prop where
  row : w.row? J = some v.row
  rl : RlsAt w v.brl v.orl Rs
  rn : Rs.length = v.nrl
  rp : 0 < v.nrl → v.prl = some ⟨v.brl, v.orl, none⟩
  sy : NatAt w .u32 v.bsy v.osy Ys
  yn : Ys.length = v.nsy
  yp : 0 < v.nsy → v.psy = some ⟨v.bsy, v.osy, none⟩
  sp : SpsAt w v.bsp v.osp Ss
  sn : Ss.length = v.nsp
  spp : 0 < v.nsp → v.psp = some ⟨v.bsp, v.osp, none⟩
  hb : v.bias < 4294967296
theorem JobOk.keep {E : List Nat} {w w' : World} {J : Nat} {v : Jv} {Rs : List Rl} {Ys : List Nat} {Ss : List Sp} (h : JobOk w J v Rs Ys Ss) (hc : Chg E w w') (h0 : J ∉ E) (h1 : v.brl ∉ E) (h2 : v.bsy ∉ E) (h3 : v.bsp ∉ E) : JobOk w' J v Rs Ys Ss :=
  ⟨by rw [hc.row (row_lt h.row) h0]; exact h.row, h.rl.keep hc h1, h.rn, h.rp, h.sy.keep hc h2, h.yn, h.yp, h.sp.keep hc h3, h.sn, h.spp, h.hb⟩
def withinN (Ss : List Sp) (a n : Nat) : Bool := Ss.any fun s => decide (s.st ≤ a ∧ a + n ≤ s.st + s.sz)
theorem a52 : aggT Try.prog 64 3 := aggT_of (by kernel_rfl)
theorem a32 : aggT Try.prog 44 4 := aggT_of (by kernel_rfl)
theorem withinN_take (Ss : List Sp) (a n j : Nat) (s : Sp) (h : Ss[j]? = some s) (hn : withinN (Ss.take j) a n = false) : withinN (Ss.take (j + 1)) a n = decide (s.st ≤ a ∧ a + n ≤ s.st + s.sz) := by
  unfold withinN at *
  rw [List.take_add_one, h, List.any_append, hn]; simp
theorem withinN_hit (Ss : List Sp) (a n j : Nat) (s : Sp) (h : Ss[j]? = some s) (hd : (s.st ≤ a ∧ a + n ≤ s.st + s.sz)) : withinN Ss a n = true := by
  unfold withinN
  rw [List.any_eq_true]
  exact ⟨s, List.mem_of_getElem? h, decide_eq_true hd⟩
set_option maxRecDepth 100000 in
theorem jwithin_any {w : World} {J : Nat} {v : Jv} {Rs : List Rl} {Ys : List Nat} {Ss : List Sp} (hJ : JobOk w J v Rs Ys Ss) (a n : Nat) (ha : a < 4294967296) (hn : n < 4294967296) (hlen : v.nsp < 1000000) :
    Calls Try.prog 32 #[.pointer (some ⟨J, 0, none⟩), .int .u32 (a : Int), .int .u32 (n : Int)] w fun e w' => e = .returned (.bool (withinN Ss a n)) ∧ Chg [] w w' := by
  obtain ⟨P, hP⟩ : ∃ P, P = v.psp := ⟨_, rfl⟩
  have c5 : w.cell? ⟨J, 5, none⟩ = some (.slice P v.nsp v.csp) := by rw [row_cell hJ.row, hP]; rfl
  have HPP : Hid (0 < v.nsp → P = some ⟨v.bsp, v.osp, none⟩) := Lib.hid (by rw [hP]; exact hJ.spp)
  clear hP
  have HJ := Lib.hid hJ
  have HA := Lib.hid ha
  have HN := Lib.hid hn
  have HL := Lib.hid hlen
  clear hJ ha hn hlen
  go_enter Try.func32, Try.ntmps32
  go_wp2_with fail
  clear c5
  go_loopw [14] (fun i wr => ∃ j : Nat, j ≤ v.nsp ∧ i = .int .i64 (j : Int) ∧ withinN (Ss.take j) a n = false ∧ Chg [] w wr) (fun i _ => v.nsp - (intOf i).toNat)
  case atStart => exact ⟨0, by omega, rfl, rfl, Chg.refl _ _⟩
  case round =>
    obtain ⟨j, hj, rfl, hw0, hch⟩ := hrel
    have HJJ := Lib.hid hj
    have HW0 := Lib.hid hw0
    have HC := Lib.hid hch
    clear hj hw0 hch
    by_cases hjn : j < v.nsp
    · have HJN := Lib.hid hjn
      have dI : (j : Int) < (v.nsp : Int) := by omega
      obtain ⟨s, hs⟩ : ∃ s, Ss[j]? = some s := ⟨_, List.getElem?_eq_getElem (by have := HJ.out.sn; omega)⟩
      obtain ⟨hsc, hst, hsz⟩ := HJ.out.sp.keep HC.out (by simp) j s hs
      obtain rfl := HPP.out (by omega)
      have hw1 := withinN_take Ss a n j s hs HW0.out
      have HH1 : Hid ((s.st ≤ a ∧ a + n ≤ s.st + s.sz) → withinN Ss a n = true) := Lib.hid (withinN_hit Ss a n j s hs)
      have HW1 := Lib.hid hw1
      have HSC : Hid (∀ i u, (SpC s)[i]? = some u → wr.cell? ⟨v.bsp, v.osp + j * 3 + i, none⟩ = some u) := Lib.hid hsc
      have HST := Lib.hid hst
      have HSZ := Lib.hid hsz
      have HW : Hid (wrap64 ((j : Int) + 1) = ((j + 1 : Nat) : Int)) := Lib.hid (by have := HL.out; rw [IntWalk.wrap64_in _ ⟨by omega, by omega⟩]; omega)
      clear hs hsc hst hsz hw1 hjn
      obtain ⟨X, hX⟩ : ∃ X, X = wr.alloc (.cells (SpC s).toArray 64) := ⟨_, rfl⟩
      obtain ⟨B, hB⟩ : ∃ B, B = wr.heap.size := ⟨_, rfl⟩
      have hr : X.row? B = some (SpC s).toArray := by rw [hX, hB]; exact row_alloc_at _ _ _ _ rfl
      have c0 : X.cell? ⟨B, 0, none⟩ = some (.int .u32 (s.st : Int)) := by rw [row_cell hr]; rfl
      have c1 : X.cell? ⟨B, 1, none⟩ = some (.int .u32 (s.sz : Int)) := by rw [row_cell hr]; rfl
      have HCX : Hid (Chg [] w X) := Lib.hid (by rw [hX]; exact HC.out.alloc _)
      have HX := Lib.hid hX
      have HB := Lib.hid hB
      clear hX hB hr
      go_upto_region 4 with (first | (refine wpList_load_part a52 (SpC s) rfl _ rfl rfl rfl HSC.out ?_) | (refine wpList_store_new a52 _ _ rfl rfl rfl rfl rfl rfl rfl rfl ?_))
      rw [← HX.out, ← HB.out]
      clear HX HB
      go_wp2_with fail
      refine (within_any a n s.st s.sz HA.out HN.out HST.out HSZ.out X).mono ?_
      rintro e w' ⟨rfl, hw⟩
      obtain rfl := hw.symm
      by_cases hd : s.st ≤ a ∧ a + n ≤ s.st + s.sz
      · have hd2 : decide (s.st ≤ a ∧ a + n ≤ s.st + s.sz) = true := decide_eq_true hd
        have HD := Lib.hid hd
        clear hd
        rw [hd2]
        clear hd2 c0 c1
        go_wp2
        go_ret
        exact ⟨by rw [HH1.out HD.out]; rfl, HCX.out⟩
      · have hd2 : decide (s.st ≤ a ∧ a + n ≤ s.st + s.sz) = false := decide_eq_false hd
        have HW2 : Hid (withinN (Ss.take (j + 1)) a n = false) := Lib.hid (by rw [HW1.out, hd2])
        clear hd
        rw [hd2]
        clear hd2 c0 c1
        go_wp2
        case roundEnd => exact ⟨⟨j + 1, HJN.out, by rw [HW.out], HW2.out, HCX.out⟩, by rw [HW.out]; simp only [intOf, Int.toNat_natCast]; have := HJN.out; omega⟩
    · have hjn2 : j = v.nsp := by have := HJJ.out; omega
      have dI : ¬ (j : Int) < (v.nsp : Int) := by omega
      have HF : Hid (withinN Ss a n = false) := Lib.hid (by have := HW0.out; rwa [List.take_of_length_le (by have := HJ.out.sn; omega)] at this)
      clear hjn hjn2
      go_wp2
      go_ret
      exact ⟨by rw [HF.out]; rfl, HC.out⟩
def symN (Ys : List Nat) (bias : Nat) (n : Int) : Nat := if n ≤ 0 ∨ (Ys.length : Int) ≤ n then 0 else (bias + Ys.getD n.toNat 0) % 4294967296
theorem symN_lt (Ys : List Nat) (bias : Nat) (n : Int) : symN Ys bias n < 4294967296 := by unfold symN; split <;> omega
set_option maxRecDepth 100000 in
theorem jsymbol_any {w : World} {J : Nat} {v : Jv} {Rs : List Rl} {Ys : List Nat} {Ss : List Sp} (hJ : JobOk w J v Rs Ys Ss) (n : Int) :
    Calls Try.prog 33 #[.pointer (some ⟨J, 0, none⟩), .int .i64 n] w fun e w' => e = .returned (.int .u32 ((symN Ys v.bias n : Nat) : Int)) ∧ Chg [] w w' := by
  have c3 : w.cell? ⟨J, 3, none⟩ = some (.slice v.psy v.nsy v.csy) := by rw [row_cell hJ.row]; rfl
  have c4 : w.cell? ⟨J, 4, none⟩ = some (.int .u32 (v.bias : Int)) := by rw [row_cell hJ.row]; rfl
  have HJ := Lib.hid hJ
  clear hJ
  by_cases h0 : n ≤ 0
  · have HS : Hid (symN Ys v.bias n = 0) := Lib.hid (by unfold symN; rw [if_pos (.inl h0)])
    go_enter Try.func33, Try.ntmps33
    go_wp2
    go_ret
    exact ⟨by rw [HS.out]; rfl, Chg.refl _ _⟩
  · by_cases h1 : (v.nsy : Int) ≤ n
    · have HS : Hid (symN Ys v.bias n = 0) := Lib.hid (by unfold symN; rw [if_pos (.inr (by rw [HJ.out.yn]; exact h1))])
      go_enter Try.func33, Try.ntmps33
      go_wp2
      go_ret
      exact ⟨by rw [HS.out]; rfl, Chg.refl _ _⟩
    · obtain ⟨k, rfl⟩ : ∃ k : Nat, n = (k : Int) := ⟨n.toNat, by omega⟩
      obtain ⟨y, hy⟩ : ∃ y, Ys[k]? = some y := ⟨_, List.getElem?_eq_getElem (by have := HJ.out.yn; omega)⟩
      obtain ⟨cy, ly⟩ := HJ.out.sy k y hy
      obtain ⟨z, hz⟩ : ∃ z, z = (v.bias + y) % 4294967296 := ⟨_, rfl⟩
      have hw : IntKind.u32.wrap ((v.bias : Int) + (y : Int)) = (z : Int) := by rw [u32w]; omega
      have HS : Hid (symN Ys v.bias (k : Int) = z) := Lib.hid (by
        unfold symN
        rw [if_neg (by have := HJ.out.yn; omega), Int.toNat_natCast, List.getD_eq_getElem?_getD, hy, hz]; rfl)
      have hpp := HJ.out.yp (by omega)
      have kI : (k : Int) < (v.nsy : Int) := by omega
      have kN : k < v.nsy := by omega
      have k0 : ¬ (k : Int) ≤ 0 := h0
      have k00 : ¬ k = 0 := by omega
      have HCY := Lib.hid cy
      have HC4 := Lib.hid c4
      have HC3 := Lib.hid c3
      clear hy hz ly
      go_enter Try.func33, Try.ntmps33
      go_upto_region 3 with (fail)
      refine wp_region_C (fun w' => w'.cell? ⟨J, 4, none⟩ = some (.int .u32 (v.bias : Int)) ∧ w'.cell? ⟨J, 3, none⟩ = some (.slice v.psy v.nsy v.csy) ∧ w'.cell? ⟨v.bsy, v.osy + k, none⟩ = some (.int .u32 (y : Int))) [(0, 0), (1, 0), (2, 0), (3, 1), (4, 0), (5, 0), (6, 0), (7, 0), (8, 1), (9, 0), (10, 0), (11, 1), (12, 0), (13, 0)] rfl (by kernel_rfl) ?hSA ?hTA
      case hSA => exact ⟨HC4.out, HC3.out, HCY.out⟩
      refine wpT_pureD (v := ?_) (some 17) rfl rfl (by rfl) (fun w' => ?_) ?_
      rotate_left
      · (go_simp; try with_reducible rfl)
      try simp only [Act.put, List.setIfInBounds_toArray, List.set_cons_zero, List.set_cons_succ]
      refine wpT_pureD (v := ?_) (some 18) rfl rfl (by rfl) (fun w' => ?_) ?_
      rotate_left
      · (go_simp; try with_reducible rfl)
      try simp only [Act.put, List.setIfInBounds_toArray, List.set_cons_zero, List.set_cons_succ]
      refine wpT_pureD (v := ?_) (some 19) rfl rfl (by rfl) (fun w' => ?_) ?_
      rotate_left
      · (go_simp; try with_reducible rfl)
      try simp only [Act.put, List.setIfInBounds_toArray, List.set_cons_zero, List.set_cons_succ]
      refine wpT_readD (v := ?_) (some 20) rfl rfl (by rfl) (fun w' hw => ?_) ?_
      rotate_left
      · (obtain ⟨q0, q1, q2⟩ := hw; go_simp; try with_reducible rfl)
      try simp only [Act.put, List.setIfInBounds_toArray, List.set_cons_zero, List.set_cons_succ]
      refine wpT_pureD (v := ?_) (some 21) rfl rfl (by rfl) (fun w' => ?_) ?_
      rotate_left
      · (go_simp; try with_reducible rfl)
      try simp only [Act.put, List.setIfInBounds_toArray, List.set_cons_zero, List.set_cons_succ]
      refine wpT_pureD (v := ?_) (some 22) rfl rfl (by rfl) (fun w' => ?_) ?_
      rotate_left
      · (go_simp; try with_reducible rfl)
      try simp only [Act.put, List.setIfInBounds_toArray, List.set_cons_zero, List.set_cons_succ]
      refine wpT_pureD (v := ?_) (some 23) rfl rfl (by rfl) (fun w' => ?_) ?_
      rotate_left
      · (go_simp; try with_reducible rfl)
      try simp only [Act.put, List.setIfInBounds_toArray, List.set_cons_zero, List.set_cons_succ]
      refine wpT_pureD (v := ?_) (some 24) rfl rfl (by rfl) (fun w' => ?_) ?_
      rotate_left
      · (go_simp; try with_reducible rfl)
      try simp only [Act.put, List.setIfInBounds_toArray, List.set_cons_zero, List.set_cons_succ]
      refine wpT_readD (v := ?_) (some 25) rfl rfl (by rfl) (fun w' hw => ?_) ?_
      rotate_left
      · (obtain ⟨q0, q1, q2⟩ := hw; go_simp; try with_reducible rfl)
      try simp only [Act.put, List.setIfInBounds_toArray, List.set_cons_zero, List.set_cons_succ]
      refine wpT_pureD (v := ?_) (some 26) rfl rfl (by rfl) (fun w' => ?_) ?_
      rotate_left
      · (go_simp; try with_reducible rfl)
      try simp only [Act.put, List.setIfInBounds_toArray, List.set_cons_zero, List.set_cons_succ]
      refine wpT_pureD (v := ?_) (some 27) rfl rfl (by rfl) (fun w' => ?_) ?_
      rotate_left
      · (go_simp; try with_reducible rfl)
      try simp only [Act.put, List.setIfInBounds_toArray, List.set_cons_zero, List.set_cons_succ]
      refine wpT_readD (v := ?_) (some 28) rfl rfl (by rfl) (fun w' hw => ?_) ?_
      rotate_left
      · (obtain ⟨q0, q1, q2⟩ := hw; go_simp; try with_reducible rfl)
      try simp only [Act.put, List.setIfInBounds_toArray, List.set_cons_zero, List.set_cons_succ]
      refine wpT_pureD (v := ?_) (some 29) rfl rfl (by rfl) (fun w' => ?_) ?_
      rotate_left
      · (go_simp; try with_reducible rfl)
      try simp only [Act.put, List.setIfInBounds_toArray, List.set_cons_zero, List.set_cons_succ]
      refine wpT_pureD (v := ?_) (some 4) rfl rfl (by rfl) (fun w' => ?_) ?_
      rotate_left
      · (go_simp; try with_reducible rfl)
      try simp only [Act.put, List.setIfInBounds_toArray, List.set_cons_zero, List.set_cons_succ]
      refine wpT_end ?_
      go_wp2
      go_ret
      exact ⟨by rw [HS.out]; rfl, by first | exact Chg.refl _ _ | exact (Chg.refl _ _).drew⟩
end Go.Proofs.L.M
