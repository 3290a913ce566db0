/- Proved here: lemmas and contracts (SumsWalk) for the laws of this seat, for all values of the stated types; no further condition. -/
import Derived.Test.YtaoocfemgkjcnaaDoorArgs
import Derived.Test.YtaoocfemgkjcnaaDoorRefSum
import Derived.Test.YtaoocfemgkjcnaaDoorPadLaw
import Derived.Test.YtaoocfemgkjcnaaDoorRootsKnown
open Go Go.RowKit Go.Lib
namespace Go.Proofs.L
attribute [local irreducible] wpT
theorem hN_eq (M : List Nat) (j : Nat) : hN M j = hN' M j := by
  induction j with
  | zero => rfl
  | succ j ih => show blockN (hN M j) (chunkN M j) = blockN (hN' M j) (chunkN' M j); rw [ih]; rfl
theorem ref_sum (L : List Nat) : sumN (writeS s0 L) = refN L := by
  rw [sum_ref, ← hN_eq]; rfl
set_option maxRecDepth 100000 in
theorem sums_walk {W : World} {pa : Option Addr} {ba oa ka ca : Nat} {La : List Nat} (hA : BytesAt W ba oa La) (hka : La.length = ka) (hpa : 0 < ka → pa = some ⟨ba, oa, none⟩) (hpn : pa = none → ca = 0) (hL : LaidOk W) (hw0 : 0 < W.heap.size) :
    Calls Tryd.prog 3 #[.slice pa ka ca] W fun e w' => e = .returned (.bool true) ∧ Chg [] W w' := by
  have HA := Lib.hid hA
  have HKA := Lib.hid hka
  have HPA := Lib.hid hpa
  have HPN := Lib.hid hpn
  have HL := Lib.hid hL
  have HW0 := Lib.hid hw0
  clear hA hka hpa hpn hL hw0
  go_enter Tryd.func3, Tryd.ntmps3
  go_wp2_with fail
  refine (fit_any HL.out HW0.out).mono ?_
  rintro e w1 ⟨rfl, hc1⟩
  have HC1 := Lib.hid hc1
  clear hc1
  by_cases hbig : ka > 2000
  · have i2 : (2000 : Int) < (ka : Int) := by omega
    go_wp2
    go_ret
    exact ⟨rfl, HC1.out⟩
  · have i2 : ¬ (2000 : Int) < (ka : Int) := by omega
    have HK5 : Hid (ka < 1000000) := Lib.hid (by omega)
    have HAV := Lib.hid (HA.out.keep HC1.out (by simp))
    have HLV := Lib.hid (HL.out.keep HC1.out (by simp))
    have HD1 : Hid (∀ w, (Op.equalIn 10000 24 (.agg (natL .u8 (sumN (writeS s0 La))).toArray) (.agg (natL .u8 (refN La)).toArray)).run Tryd.prog w = .ok true w) := Lib.hid (fun w => by rw [← ref_sum, eq24 _ _ w (sumN_len _) (sumN_len _), decide_eq_true rfl])
    go_wp2_with fail
    refine (of_any HAV.out HKA.out HPA.out HK5.out HLV.out (by have := HC1.out.size; have := HW0.out; omega)).mono ?_
    rintro e w2 ⟨rfl, hc2⟩
    have HC2 := Lib.hid (HC1.out.trans hc2)
    obtain ⟨DA, hDA⟩ : ∃ D, D = (natL .u8 (sumN (writeS s0 La))).toArray := ⟨_, rfl⟩
    rw [← hDA] at HD1 ⊢
    have HAW := Lib.hid (HAV.out.keep hc2 (by simp))
    clear hc2 hDA
    go_wp2_with fail
    refine (refSum_any HAW.out HKA.out HPA.out HPN.out HK5.out outAt_adds outAt_h0).mono ?_
    rintro e w3 ⟨rfl, hc3⟩
    have HC3 := Lib.hid (HC2.out.trans hc3)
    obtain ⟨DB, hDB⟩ : ∃ D, D = (natL .u8 (refN La)).toArray := ⟨_, rfl⟩
    rw [← hDB] at HD1 ⊢
    have d1 := HD1.out
    clear hc3 hDB
    go_wp2
    go_ret
    exact ⟨rfl, HC3.out⟩
end Go.Proofs.L
