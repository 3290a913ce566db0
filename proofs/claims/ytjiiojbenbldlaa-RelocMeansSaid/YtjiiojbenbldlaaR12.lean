/- Proved here: lemmas and contracts (R12) for the laws of this seat, for all values of the stated types; no further condition. -/
import Derived.Test.YtjiiojbenbldlaaR11
open Go Go.RowKit Go.Lib
namespace Go.Proofs.L
attribute [local irreducible] wpT
def subw (x a : Nat) : Nat := (x + 4294967296 - a) % 4294967296
theorem subw_lt (x a : Nat) : subw x a < 4294967296 := Nat.mod_lt _ (by decide)
theorem subw_wrap {x a z : Nat} (hx : x < 4294967296) (ha : a < 4294967296) (h : z = subw x a) : IntKind.u32.wrap ((x : Int) - (a : Int)) = (z : Int) := by rw [u32w, h]; unfold subw; omega
theorem addw_wrap {x a z : Nat} (h : z = (x + a) % 4294967296) : IntKind.u32.wrap ((x : Int) + (a : Int)) = (z : Int) := by rw [u32w, h]; omega
def pairP (bias a : Nat) (r : Rl) : Bool := decide (r.ty = 23) && decide ((bias + r.at_) % 4294967296 = a)
def pairV (Ys : List Nat) (bias a : Nat) (r : Rl) : Nat := subw ((symN Ys bias r.sy + r.add) % 4294967296) a
def pairN (Rs : List Rl) (Ys : List Nat) (bias a : Nat) : Nat × Bool := match Rs.find? (pairP bias a) with | some r => (pairV Ys bias a r, true) | none => (0, false)
theorem find_take (Rs : List Rl) (p : Rl → Bool) (j : Nat) (r : Rl) (h : Rs[j]? = some r) (hn : (Rs.take j).find? p = none) : (p r = true → Rs.find? p = some r) ∧ (p r = false → (Rs.take (j + 1)).find? p = none) := by
  constructor
  · intro hp
    have hj := (List.getElem?_eq_some_iff.1 h).1
    rw [← List.take_append_drop j Rs, List.find?_append, hn, List.drop_eq_getElem_cons hj]
    have : Rs[j] = r := (List.getElem?_eq_some_iff.1 h).2
    simp [this, hp]
  · intro hp
    rw [List.take_add_one, h, List.find?_append, hn]
    simp [hp]
theorem wpT_skipD {P : Program} {Q : Exit → Act → World → Prop} {ops : Array Oper} {S : World → Prop} {r : List (Nat × Nat)} {a : Act} {w : World} {i c : Nat} {o : Oper} (d : Option Tmp) (ho : ops[i]? = some o) (hd : o.dst = d) (hw : Region.wanted o (yielded ops a.tmps) = false)
    (h : wpT P ops Q S r (a.put d undef) w) : wpT P ops Q S ((i, c) :: r) a w := by subst hd; exact wpT_skip ho hw h
/-! the sort of numbers in a row -/
def u64L (M : List Nat) : List Value := M.map fun x : Nat => .int .u64 (x : Int)
set_option maxRecDepth 100000 in
set_option maxHeartbeats 1600000 in
theorem jpair_any {w : World} {J : Nat} {v : Jv} {Rs : List Rl} {Ys : List Nat} {Ss : List Sp} (hJ : JobOk w J v Rs Ys Ss) (a : Nat) (ha : a < 4294967296) (hlen : v.nrl < 1000000) :
    Calls Try.prog 44 #[.pointer (some ⟨J, 0, none⟩), .int .u32 (a : Int)] w fun e w' => e = .returned (.tuple #[.int .u32 ((pairN Rs Ys v.bias a).1 : Int), .bool (pairN Rs Ys v.bias a).2]) ∧ Chg [] w w' := by
  obtain ⟨P, hP⟩ : ∃ P, P = v.prl := ⟨_, rfl⟩
  have c5 : w.cell? ⟨J, 2, none⟩ = some (.slice P v.nrl v.crl) := by rw [row_cell hJ.row, hP]; rfl
  have HPP : Hid (0 < v.nrl → P = some ⟨v.brl, v.orl, none⟩) := Lib.hid (by rw [hP]; exact hJ.rp)
  have HJ := Lib.hid hJ
  have HA := Lib.hid ha
  have HL := Lib.hid hlen
  clear hP hJ ha hlen
  go_enter Try.func44, Try.ntmps44
  go_wp2_with fail
  clear c5
  go_loopw [14] (fun i wr => ∃ j : Nat, j ≤ v.nrl ∧ i = .int .i64 (j : Int) ∧ (Rs.take j).find? (pairP v.bias a) = none ∧ Chg [] w wr) (fun i _ => v.nrl - (intOf i).toNat)
  case atStart => exact ⟨0, by omega, rfl, rfl, Chg.refl _ _⟩
  case round =>
    obtain ⟨j, hj, rfl, hw0, hch⟩ := hrel
    have HJJ := Lib.hid hj
    have HW0 := Lib.hid hw0
    have HC := Lib.hid hch
    clear hj hw0 hch
    by_cases hjn : j < v.nrl
    · have HJN := Lib.hid hjn
      have dI : (j : Int) < (v.nrl : Int) := by omega
      obtain ⟨r, hr⟩ : ∃ r, Rs[j]? = some r := ⟨_, List.getElem?_eq_getElem (by have := HJ.out.rn; omega)⟩
      obtain ⟨hsc, hst, hsz⟩ := HJ.out.rl.keep HC.out (by simp) j r hr
      obtain rfl := HPP.out (by omega)
      have hw1 := find_take Rs (pairP v.bias a) j r hr HW0.out
      have HW1 := Lib.hid hw1
      have HSC : Hid (∀ i u, (RlC r)[i]? = some u → wr.cell? ⟨v.brl, v.orl + j * 4 + i, none⟩ = some u) := Lib.hid hsc
      have HST := Lib.hid hst
      have HSZ := Lib.hid hsz
      have HW : Hid (wrap64 ((j : Int) + 1) = ((j + 1 : Nat) : Int)) := Lib.hid (by have := HL.out; rw [IntWalk.wrap64_in _ ⟨by omega, by omega⟩]; omega)
      obtain ⟨X, hX⟩ : ∃ X, X = wr.alloc (.cells (RlC r).toArray 32) := ⟨_, rfl⟩
      obtain ⟨B, hB⟩ : ∃ B, B = wr.heap.size := ⟨_, rfl⟩
      have hrX : X.row? B = some (RlC r).toArray := by rw [hX, hB]; exact row_alloc_at _ _ _ _ rfl
      have hcX : Chg [] w X := by rw [hX]; exact HC.out.alloc _
      have HJX : Hid (JobOk X J v Rs Ys Ss) := Lib.hid (HJ.out.keep hcX (by simp) (by simp) (by simp) (by simp))
      have HCX := Lib.hid hcX
      have HX := Lib.hid hX
      have HB := Lib.hid hB
      obtain ⟨ra, ty, sy, add⟩ := r
      have C0 : Hid (X.cell? ⟨B, 0, none⟩ = some (.int .u32 (ra : Int))) := Lib.hid (by rw [row_cell hrX]; rfl)
      have C1 : Hid (X.cell? ⟨B, 1, none⟩ = some (.int .i64 ty)) := Lib.hid (by rw [row_cell hrX]; rfl)
      have C2 : Hid (X.cell? ⟨B, 2, none⟩ = some (.int .i64 sy)) := Lib.hid (by rw [row_cell hrX]; rfl)
      have C3 : Hid (X.cell? ⟨B, 3, none⟩ = some (.int .u32 (add : Int))) := Lib.hid (by rw [row_cell hrX]; rfl)
      have C4 : Hid (X.cell? ⟨J, 4, none⟩ = some (.int .u32 (v.bias : Int))) := Lib.hid (by rw [row_cell HJX.out.row]; rfl)
      have HPD : Hid (pairP v.bias a ⟨ra, ty, sy, add⟩ = (decide (ty = 23) && decide ((v.bias + ra) % 4294967296 = a))) := Lib.hid rfl
      clear hr hsc hst hsz hw1 hX hB hrX hcX hjn
      go_upto_region 4 with (first | (refine wpList_load_part a32 (RlC ⟨ra, ty, sy, add⟩) rfl _ rfl rfl rfl HSC.out ?_) | (refine wpList_store_new a32 _ _ rfl rfl rfl rfl rfl rfl rfl rfl ?_))
      rw [← HX.out, ← HB.out]
      clear HX HB dI
      by_cases hty : ty = 23
      · subst hty
        obtain ⟨p, hp⟩ : ∃ p, p = (v.bias + ra) % 4294967296 := ⟨_, rfl⟩
        have wp := addw_wrap hp
        by_cases hpa : p = a
        · have HPT : Hid (pairP v.bias a ⟨ra, 23, sy, add⟩ = true) := Lib.hid (by rw [HPD.out, ← hp, hpa]; simp)
          have pI : (p : Int) = (a : Int) := by omega
          have HPI := Lib.hid hpa
          clear hp
          refine wp_region_C (fun w' => w'.cell? ⟨B, 1, none⟩ = some (.int .i64 23) ∧ w'.cell? ⟨J, 4, none⟩ = some (.int .u32 (v.bias : Int)) ∧ w'.cell? ⟨B, 0, none⟩ = some (.int .u32 (ra : Int))) [(0, 0), (1, 1), (2, 0), (3, 0), (4, 0), (5, 0), (6, 0), (7, 1), (8, 0), (9, 1), (10, 0), (11, 0), (12, 0), (13, 0)] rfl (by kernel_rfl) ?hSA ?hTA
          case hSA => exact ⟨C1.out, C4.out, C0.out⟩
          refine wpT_pureD (v := ?_) (some 18) rfl rfl (by rfl) (fun w' => ?_) ?_
          rotate_left
          · (go_simp; try with_reducible rfl)
          try simp only [Act.put, List.setIfInBounds_toArray, List.set_cons_zero, List.set_cons_succ]
          refine wpT_readD (v := ?_) (some 19) rfl rfl (by rfl) (fun w' hw => ?_) ?_
          rotate_left
          · (obtain ⟨q0, q1, q2⟩ := hw; go_simp; try with_reducible rfl)
          try simp only [Act.put, List.setIfInBounds_toArray, List.set_cons_zero, List.set_cons_succ]
          refine wpT_pureD (v := ?_) (some 20) rfl rfl (by rfl) (fun w' => ?_) ?_
          rotate_left
          · (go_simp; try with_reducible rfl)
          try simp only [Act.put, List.setIfInBounds_toArray, List.set_cons_zero, List.set_cons_succ]
          refine wpT_pureD (v := ?_) (some 21) rfl rfl (by rfl) (fun w' => ?_) ?_
          rotate_left
          · (go_simp; try with_reducible rfl)
          try simp only [Act.put, List.setIfInBounds_toArray, List.set_cons_zero, List.set_cons_succ]
          refine wpT_pureD (v := ?_) (some 22) rfl rfl (by rfl) (fun w' => ?_) ?_
          rotate_left
          · (go_simp; try with_reducible rfl)
          try simp only [Act.put, List.setIfInBounds_toArray, List.set_cons_zero, List.set_cons_succ]
          refine wpT_pureD (v := ?_) (some 23) rfl rfl (by rfl) (fun w' => ?_) ?_
          rotate_left
          · (go_simp; try with_reducible rfl)
          try simp only [Act.put, List.setIfInBounds_toArray, List.set_cons_zero, List.set_cons_succ]
          refine wpT_pureD (v := ?_) (some 24) rfl rfl (by rfl) (fun w' => ?_) ?_
          rotate_left
          · (go_simp; try with_reducible rfl)
          try simp only [Act.put, List.setIfInBounds_toArray, List.set_cons_zero, List.set_cons_succ]
          refine wpT_readD (v := ?_) (some 25) rfl rfl (by rfl) (fun w' hw => ?_) ?_
          rotate_left
          · (obtain ⟨q0, q1, q2⟩ := hw; go_simp; try with_reducible rfl)
          try simp only [Act.put, List.setIfInBounds_toArray, List.set_cons_zero, List.set_cons_succ]
          refine wpT_pureD (v := ?_) (some 26) rfl rfl (by rfl) (fun w' => ?_) ?_
          rotate_left
          · (go_simp; try with_reducible rfl)
          try simp only [Act.put, List.setIfInBounds_toArray, List.set_cons_zero, List.set_cons_succ]
          refine wpT_readD (v := ?_) (some 27) rfl rfl (by rfl) (fun w' hw => ?_) ?_
          rotate_left
          · (obtain ⟨q0, q1, q2⟩ := hw; go_simp; try with_reducible rfl)
          try simp only [Act.put, List.setIfInBounds_toArray, List.set_cons_zero, List.set_cons_succ]
          refine wpT_pureD (v := ?_) (some 28) rfl rfl (by rfl) (fun w' => ?_) ?_
          rotate_left
          · (go_simp; try with_reducible rfl)
          try simp only [Act.put, List.setIfInBounds_toArray, List.set_cons_zero, List.set_cons_succ]
          refine wpT_pureD (v := ?_) (some 29) rfl rfl (by rfl) (fun w' => ?_) ?_
          rotate_left
          · (go_simp; try with_reducible rfl)
          try simp only [Act.put, List.setIfInBounds_toArray, List.set_cons_zero, List.set_cons_succ]
          refine wpT_pureD (v := ?_) (some 30) rfl rfl (by rfl) (fun w' => ?_) ?_
          rotate_left
          · (go_simp; try with_reducible rfl)
          try simp only [Act.put, List.setIfInBounds_toArray, List.set_cons_zero, List.set_cons_succ]
          refine wpT_pureD (v := ?_) (some 31) rfl rfl (by rfl) (fun w' => ?_) ?_
          rotate_left
          · (go_simp; try with_reducible rfl)
          try simp only [Act.put, List.setIfInBounds_toArray, List.set_cons_zero, List.set_cons_succ]
          refine wpT_end ?_
          obtain ⟨y1, hy1⟩ : ∃ y, y = symN Ys v.bias sy := ⟨_, rfl⟩
          obtain ⟨z1, hz1⟩ : ∃ z, z = (y1 + add) % 4294967296 := ⟨_, rfl⟩
          obtain ⟨z2, hz2⟩ : ∃ z, z = subw z1 a := ⟨_, rfl⟩
          have u1 := addw_wrap hz1
          have u2 := subw_wrap (show z1 < 4294967296 by omega) HA.out hz2
          have HV : Hid (pairN Rs Ys v.bias a = (z2, true)) := Lib.hid (by
            unfold pairN
            rw [HW1.out.1 HPT.out]
            show (pairV Ys v.bias a _, true) = _
            unfold pairV
            simp only []
            rw [← hy1, ← hz1, ← hz2])
          have HY1 := Lib.hid hy1
          clear hy1 hz1 hz2 wp pI
          go_upto_region 5 with (fail)
          refine wp_region_C (fun w' => Chg [] X w' ∧ w'.cell? ⟨B, 2, none⟩ = some (.int .i64 sy) ∧ w'.cell? ⟨B, 3, none⟩ = some (.int .u32 (add : Int))) [(0, 0), (1, 0), (2, 1), (4, 0), (5, 1), (7, 0), (3, 2), (6, 0), (8, 0), (9, 0), (10, 0)] rfl (by kernel_rfl) ?hSB ?hTB
          case hSB => exact ⟨(Chg.refl [] X).drew.drew, C2.out, C3.out⟩
          refine wpT_pureD (v := ?_) (some 32) rfl rfl (by rfl) (fun w' => ?_) ?_
          rotate_left
          · (go_simp; try with_reducible rfl)
          try simp only [Act.put, List.setIfInBounds_toArray, List.set_cons_zero, List.set_cons_succ]
          refine wpT_pureD (v := ?_) (some 33) rfl rfl (by rfl) (fun w' => ?_) ?_
          rotate_left
          · (go_simp; try with_reducible rfl)
          try simp only [Act.put, List.setIfInBounds_toArray, List.set_cons_zero, List.set_cons_succ]
          refine wpT_readD (v := ?_) (some 34) rfl rfl (by rfl) (fun w' hw => ?_) ?_
          rotate_left
          · (obtain ⟨q0, q1, q2⟩ := hw; go_simp; try with_reducible rfl)
          try simp only [Act.put, List.setIfInBounds_toArray, List.set_cons_zero, List.set_cons_succ]
          refine wpT_pureD (v := ?_) (some 36) rfl rfl (by rfl) (fun w' => ?_) ?_
          rotate_left
          · (go_simp; try with_reducible rfl)
          try simp only [Act.put, List.setIfInBounds_toArray, List.set_cons_zero, List.set_cons_succ]
          refine wpT_readD (v := ?_) (some 37) rfl rfl (by rfl) (fun w' hw => ?_) ?_
          rotate_left
          · (obtain ⟨q0, q1, q2⟩ := hw; go_simp; try with_reducible rfl)
          try simp only [Act.put, List.setIfInBounds_toArray, List.set_cons_zero, List.set_cons_succ]
          refine wpT_pureD (v := ?_) (some 39) rfl rfl (by rfl) (fun w' => ?_) ?_
          rotate_left
          · (go_simp; try with_reducible rfl)
          try simp only [Act.put, List.setIfInBounds_toArray, List.set_cons_zero, List.set_cons_succ]
          refine wpT_eff rfl (by rfl) (fun K hK => ?_)
          go_wp2_with fail
          refine (jsymbol_any (HJX.out.keep ((Chg.refl [] X).drew.drew) (by simp) (by simp) (by simp) (by simp)) sy).mono ?_
          rintro e w3 ⟨rfl, hc3⟩
          rw [← HY1.out]
          go_wp2_with fail
          refine hK _ _ ⟨(Chg.refl [] X).drew.drew.trans hc3, cell_keep C2.out ((Chg.refl [] X).drew.drew.trans hc3) (by simp), cell_keep C3.out ((Chg.refl [] X).drew.drew.trans hc3) (by simp)⟩ ?_
          clear hK K
          refine wpT_pureD (v := ?_) (some 38) rfl rfl (by rfl) (fun w' => ?_) ?_
          rotate_left
          · (go_simp; try with_reducible rfl)
          try simp only [Act.put, List.setIfInBounds_toArray, List.set_cons_zero, List.set_cons_succ]
          refine wpT_pureD (v := ?_) (some 40) rfl rfl (by rfl) (fun w' => ?_) ?_
          rotate_left
          · (go_simp; try with_reducible rfl)
          try simp only [Act.put, List.setIfInBounds_toArray, List.set_cons_zero, List.set_cons_succ]
          refine wpT_pureD (v := ?_) (some 4) rfl rfl (by rfl) (fun w' => ?_) ?_
          rotate_left
          · (go_simp; try with_reducible rfl)
          try simp only [Act.put, List.setIfInBounds_toArray, List.set_cons_zero, List.set_cons_succ]
          refine wpT_pureD (v := ?_) (some 5) rfl rfl (by rfl) (fun w' => ?_) ?_
          rotate_left
          · (go_simp; try with_reducible rfl)
          try simp only [Act.put, List.setIfInBounds_toArray, List.set_cons_zero, List.set_cons_succ]
          refine wpT_end ?_
          go_wp2
          go_ret2
          exact ⟨by rw [HV.out]; rfl, by first | exact HCX.out.trans ((Chg.refl [] X).drew.drew.trans hc3) | (trace_state; sorry)⟩
        · have HPT : Hid (pairP v.bias a ⟨ra, 23, sy, add⟩ = false) := Lib.hid (by rw [HPD.out, ← hp]; simp [hpa])
          have pI : ¬ (p : Int) = (a : Int) := by omega
          have HPI := Lib.hid hpa
          clear hp
          refine wp_region_C (fun w' => w'.cell? ⟨B, 1, none⟩ = some (.int .i64 23) ∧ w'.cell? ⟨J, 4, none⟩ = some (.int .u32 (v.bias : Int)) ∧ w'.cell? ⟨B, 0, none⟩ = some (.int .u32 (ra : Int))) [(0, 0), (1, 1), (2, 0), (3, 0), (4, 0), (5, 0), (6, 0), (7, 1), (8, 0), (9, 1), (10, 0), (11, 0), (12, 0), (13, 0)] rfl (by kernel_rfl) ?hSC ?hTC
          case hSC => exact ⟨C1.out, C4.out, C0.out⟩
          refine wpT_pureD (v := ?_) (some 18) rfl rfl (by rfl) (fun w' => ?_) ?_
          rotate_left
          · (go_simp; try with_reducible rfl)
          try simp only [Act.put, List.setIfInBounds_toArray, List.set_cons_zero, List.set_cons_succ]
          refine wpT_readD (v := ?_) (some 19) rfl rfl (by rfl) (fun w' hw => ?_) ?_
          rotate_left
          · (obtain ⟨q0, q1, q2⟩ := hw; go_simp; try with_reducible rfl)
          try simp only [Act.put, List.setIfInBounds_toArray, List.set_cons_zero, List.set_cons_succ]
          refine wpT_pureD (v := ?_) (some 20) rfl rfl (by rfl) (fun w' => ?_) ?_
          rotate_left
          · (go_simp; try with_reducible rfl)
          try simp only [Act.put, List.setIfInBounds_toArray, List.set_cons_zero, List.set_cons_succ]
          refine wpT_pureD (v := ?_) (some 21) rfl rfl (by rfl) (fun w' => ?_) ?_
          rotate_left
          · (go_simp; try with_reducible rfl)
          try simp only [Act.put, List.setIfInBounds_toArray, List.set_cons_zero, List.set_cons_succ]
          refine wpT_pureD (v := ?_) (some 22) rfl rfl (by rfl) (fun w' => ?_) ?_
          rotate_left
          · (go_simp; try with_reducible rfl)
          try simp only [Act.put, List.setIfInBounds_toArray, List.set_cons_zero, List.set_cons_succ]
          refine wpT_pureD (v := ?_) (some 23) rfl rfl (by rfl) (fun w' => ?_) ?_
          rotate_left
          · (go_simp; try with_reducible rfl)
          try simp only [Act.put, List.setIfInBounds_toArray, List.set_cons_zero, List.set_cons_succ]
          refine wpT_pureD (v := ?_) (some 24) rfl rfl (by rfl) (fun w' => ?_) ?_
          rotate_left
          · (go_simp; try with_reducible rfl)
          try simp only [Act.put, List.setIfInBounds_toArray, List.set_cons_zero, List.set_cons_succ]
          refine wpT_readD (v := ?_) (some 25) rfl rfl (by rfl) (fun w' hw => ?_) ?_
          rotate_left
          · (obtain ⟨q0, q1, q2⟩ := hw; go_simp; try with_reducible rfl)
          try simp only [Act.put, List.setIfInBounds_toArray, List.set_cons_zero, List.set_cons_succ]
          refine wpT_pureD (v := ?_) (some 26) rfl rfl (by rfl) (fun w' => ?_) ?_
          rotate_left
          · (go_simp; try with_reducible rfl)
          try simp only [Act.put, List.setIfInBounds_toArray, List.set_cons_zero, List.set_cons_succ]
          refine wpT_readD (v := ?_) (some 27) rfl rfl (by rfl) (fun w' hw => ?_) ?_
          rotate_left
          · (obtain ⟨q0, q1, q2⟩ := hw; go_simp; try with_reducible rfl)
          try simp only [Act.put, List.setIfInBounds_toArray, List.set_cons_zero, List.set_cons_succ]
          refine wpT_pureD (v := ?_) (some 28) rfl rfl (by rfl) (fun w' => ?_) ?_
          rotate_left
          · (go_simp; try with_reducible rfl)
          try simp only [Act.put, List.setIfInBounds_toArray, List.set_cons_zero, List.set_cons_succ]
          refine wpT_pureD (v := ?_) (some 29) rfl rfl (by rfl) (fun w' => ?_) ?_
          rotate_left
          · (go_simp; try with_reducible rfl)
          try simp only [Act.put, List.setIfInBounds_toArray, List.set_cons_zero, List.set_cons_succ]
          refine wpT_pureD (v := ?_) (some 30) rfl rfl (by rfl) (fun w' => ?_) ?_
          rotate_left
          · (go_simp; try with_reducible rfl)
          try simp only [Act.put, List.setIfInBounds_toArray, List.set_cons_zero, List.set_cons_succ]
          refine wpT_pureD (v := ?_) (some 31) rfl rfl (by rfl) (fun w' => ?_) ?_
          rotate_left
          · (go_simp; try with_reducible rfl)
          try simp only [Act.put, List.setIfInBounds_toArray, List.set_cons_zero, List.set_cons_succ]
          refine wpT_end ?_
          go_wp2
          case roundEnd => exact ⟨⟨j + 1, HJN.out, by rw [HW.out], HW1.out.2 HPT.out, HCX.out.drew⟩, by rw [HW.out]; simp only [intOf, Int.toNat_natCast]; have := HJN.out; omega⟩
      · have HPT : Hid (pairP v.bias a ⟨ra, ty, sy, add⟩ = false) := Lib.hid (by rw [HPD.out]; simp [hty])
        have hb1 : (ty == 23) = false := by simp [hty]
        have hb2 : decide (ty = 23) = false := by simp [hty]
        refine wp_region_C (fun w' => w'.cell? ⟨B, 1, none⟩ = some (.int .i64 ty)) [(0, 0), (1, 1), (2, 0), (3, 0), (4, 0), (5, 0), (6, 0), (7, 1), (8, 0), (9, 1), (10, 0), (11, 0), (12, 0), (13, 0)] rfl (by kernel_rfl) ?hSD ?hTD
        case hSD => exact C1.out
        refine wpT_pureD (v := ?_) (some 18) rfl rfl (by rfl) (fun w' => ?_) ?_
        rotate_left
        · (go_simp; try with_reducible rfl)
        try simp only [Act.put, List.setIfInBounds_toArray, List.set_cons_zero, List.set_cons_succ]
        refine wpT_readD (v := ?_) (some 19) rfl rfl (by rfl) (fun w' hw => ?_) ?_
        rotate_left
        · (obtain q0 := hw; go_simp; try with_reducible rfl)
        try simp only [Act.put, List.setIfInBounds_toArray, List.set_cons_zero, List.set_cons_succ]
        refine wpT_pureD (v := ?_) (some 20) rfl rfl (by rfl) (fun w' => ?_) ?_
        rotate_left
        · (go_simp; try with_reducible rfl)
        try simp only [Act.put, List.setIfInBounds_toArray, List.set_cons_zero, List.set_cons_succ]
        refine wpT_pureD (v := ?_) (some 21) rfl rfl (by rfl) (fun w' => ?_) ?_
        rotate_left
        · (go_simp; try with_reducible rfl)
        try simp only [Act.put, List.setIfInBounds_toArray, List.set_cons_zero, List.set_cons_succ]
        refine wpT_skipD (some 22) rfl rfl (by rfl) ?_
        try simp only [Act.put, List.setIfInBounds_toArray, List.set_cons_zero, List.set_cons_succ]
        refine wpT_skipD (some 23) rfl rfl (by rfl) ?_
        try simp only [Act.put, List.setIfInBounds_toArray, List.set_cons_zero, List.set_cons_succ]
        refine wpT_skipD (some 24) rfl rfl (by rfl) ?_
        try simp only [Act.put, List.setIfInBounds_toArray, List.set_cons_zero, List.set_cons_succ]
        refine wpT_skipD (some 25) rfl rfl (by rfl) ?_
        try simp only [Act.put, List.setIfInBounds_toArray, List.set_cons_zero, List.set_cons_succ]
        refine wpT_skipD (some 26) rfl rfl (by rfl) ?_
        try simp only [Act.put, List.setIfInBounds_toArray, List.set_cons_zero, List.set_cons_succ]
        refine wpT_skipD (some 27) rfl rfl (by rfl) ?_
        try simp only [Act.put, List.setIfInBounds_toArray, List.set_cons_zero, List.set_cons_succ]
        refine wpT_skipD (some 28) rfl rfl (by rfl) ?_
        try simp only [Act.put, List.setIfInBounds_toArray, List.set_cons_zero, List.set_cons_succ]
        refine wpT_skipD (some 29) rfl rfl (by rfl) ?_
        try simp only [Act.put, List.setIfInBounds_toArray, List.set_cons_zero, List.set_cons_succ]
        refine wpT_skipD (some 30) rfl rfl (by rfl) ?_
        try simp only [Act.put, List.setIfInBounds_toArray, List.set_cons_zero, List.set_cons_succ]
        refine wpT_pureD (v := ?_) (some 31) rfl rfl (by rfl) (fun w' => ?_) ?_
        rotate_left
        · (go_simp; try with_reducible rfl)
        try simp only [Act.put, List.setIfInBounds_toArray, List.set_cons_zero, List.set_cons_succ]
        refine wpT_end ?_
        go_wp2
        case roundEnd => exact ⟨⟨j + 1, HJN.out, by rw [HW.out], HW1.out.2 HPT.out, HCX.out.drew⟩, by rw [HW.out]; simp only [intOf, Int.toNat_natCast]; have := HJN.out; omega⟩
    · have hjn2 : j = v.nrl := by have := HJJ.out; omega
      have dI : ¬ (j : Int) < (v.nrl : Int) := by omega
      have HF : Hid (pairN Rs Ys v.bias a = (0, false)) := Lib.hid (by
        have := HW0.out
        rw [List.take_of_length_le (by have := HJ.out.rn; omega)] at this
        unfold pairN; rw [this])
      clear hjn hjn2
      go_wp2
      go_ret2
      exact ⟨by rw [HF.out]; rfl, HC.out⟩
end Go.Proofs.L
