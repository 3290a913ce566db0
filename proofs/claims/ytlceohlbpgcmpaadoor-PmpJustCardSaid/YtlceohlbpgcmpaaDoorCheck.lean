/- Proved here: lemmas and contracts (Check) for the laws of this seat, for all values of the stated types; no further condition. -/
import Derived.Test.YtlceohlbpgcmpaaDoorRange
open Go Go.RowKit Go.Lib
namespace Go.Proofs.L
attribute [local irreducible] wpT
/-- has entry i any of the bytes from f to t? -/
def hitN (L : List Ent) (f t i : Nat) : Bool := decide (f < (rangeN L i).2) && decide ((rangeN L i).1 < t) && decide ((rangeN L i).1 < (rangeN L i).2)
def allN (L : List Ent) (f t i : Nat) (right : Int) : Bool := decide ((rangeN L i).1 ≤ f) && decide (t ≤ (rangeN L i).2) && (bits .and .i64 (L.getD i default).rights right == right)
def checkFrom (L : List Ent) (f t : Nat) (right : Int) : Nat → Nat → Bool
  | 0, _ => false
  | k + 1, i => if hitN L f t i then allN L f t i right else checkFrom L f t right k (i + 1)
def checkN (L : List Ent) (f t : Nat) (right : Int) : Bool := checkFrom L f t right L.length 0
theorem range_lt {w : World} {b o : Nat} {L : List Ent} (hE : EntsAt w b o L) (i : Nat) : (rangeN L i).1 < 68719476736 ∧ (rangeN L i).2 < 68719476736 := by
  unfold rangeN
  split
  · exact ⟨by decide, by decide⟩
  · rename_i e he
    have := (hE i e he).lt
    obtain ⟨l1, l2⟩ := size_lt e.addr this
    have f5 : e.addr * 4 / sizeN e.addr * sizeN e.addr ≤ e.addr * 4 := Nat.div_mul_le_self _ _
    have hp : (L.getD (i - 1) default).addr < 4294967296 := by
      rw [List.getD_eq_getElem?_getD]
      cases hg : L[i - 1]? with
      | none => exact (by decide : (0 : Nat) < 4294967296)
      | some e' => exact (hE _ _ hg).lt
    split
    · split <;> exact ⟨by simp only []; omega, by simp only []; omega⟩
    · split
      · exact ⟨by simp only []; omega, by simp only []; omega⟩
      · split
        · exact ⟨by simp only []; omega, by simp only []; omega⟩
        · exact ⟨by decide, by decide⟩
set_option maxRecDepth 100000 in
set_option maxHeartbeats 1600000 in
theorem check_any {w : World} {b o n c : Nat} {L : List Ent} (hE : EntsAt w b o L) (hn : L.length = n) (hn6 : n < 1000000) (hL : LaidOk w) (x m : Nat) (right : Int) (hx : x < 4294967296) (hm : 1 ≤ m) (hm2 : m < 4294967296) :
    Calls Tryd.prog 13 #[.slice (some ⟨b, o, none⟩) n c, .int .u32 (x : Int), .int .i64 (m : Int), .int .i64 right] w fun e w' => e = .returned (.bool (checkN L x (x + m) right)) ∧ w' = w := by
  have HR : Hid (∀ i, i < n → Calls Tryd.prog 21 #[.slice (some ⟨b, o, none⟩) n c, .int .i64 (i : Int)] w fun e w' => e = .returned (.tuple #[.int .u64 ((rangeN L i).1 : Int), .int .u64 ((rangeN L i).2 : Int)]) ∧ w' = w) := Lib.hid fun i hi => range_any hE hn i hi hn6 hL
  have HE := Lib.hid hE
  have HN := Lib.hid hn
  have HN6 := Lib.hid hn6
  have d0 : decide ((m : Int) < 1) = false := by rw [decide_eq_false_iff_not]; omega
  have x1 : IntKind.u64.wrap (x : Int) = (x : Int) := by rw [u64w]; omega
  have x2 : IntKind.u64.wrap (m : Int) = (m : Int) := by rw [u64w]; omega
  obtain ⟨t, ht⟩ : ∃ t, t = x + m := ⟨_, rfl⟩
  have x3 : IntKind.u64.wrap ((x : Int) + (m : Int)) = (t : Int) := by rw [u64w]; omega
  rw [← ht]
  clear hE hL hn hn6 ht hx hm hm2
  go_enter Tryd.func13, Tryd.ntmps13
  go_wp2_with fail
  go_loopw [25, 11, 12, 13] (fun i j a b wr => ∃ k : Nat, k ≤ n ∧ i = .int .i64 k ∧ wr = w ∧ checkN L x t right = checkFrom L x t right (n - k) k) (fun i _ _ _ _ => n - (intOf i).toNat)
  case atStart => exact ⟨0, by omega, rfl, rfl, by unfold checkN; rw [HN.out]; rfl⟩
  case round =>
    obtain ⟨k, hk, rfl, rfl, hck⟩ := hrel
    by_cases hk2 : k < n
    · have HK := Lib.hid hk2
      have HW : Hid (wrap64 ((k : Int) + 1) = ((k + 1 : Nat) : Int)) := Lib.hid (by have := HN6.out; rw [IntWalk.wrap64_in _ ⟨by omega, by omega⟩]; omega)
      obtain ⟨r1, r2⟩ := range_lt HE.out k
      obtain ⟨ra, hra⟩ : ∃ y, y = (rangeN L k).1 := ⟨_, rfl⟩
      obtain ⟨rb, hrb⟩ : ∃ y, y = (rangeN L k).2 := ⟨_, rfl⟩
      have HRK := Lib.hid (HR.out k hk2)
      rw [← hra, ← hrb] at HRK
      obtain ⟨e, he⟩ : ∃ e, L[k]? = some e := ⟨_, List.getElem?_eq_getElem (by have := HN.out; omega)⟩
      have ce := (HE.out k e he).c1
      have hge : L.getD k default = e := by rw [List.getD_eq_getElem?_getD, he]; rfl
      have hst : checkFrom L x t right (n - k) k = if hitN L x t k then allN L x t k right else checkFrom L x t right (n - (k + 1)) (k + 1) := by
        rw [show n - k = (n - (k + 1)) + 1 by omega]; rfl
      rw [hst] at hck
      unfold hitN allN at hck
      rw [← hra, ← hrb, hge] at hck
      have HCK := Lib.hid hck
      have dk : decide ((k : Int) < (n : Int)) = true := by rw [decide_eq_true_eq]; omega
      have hkI : (k : Int) < (n : Int) := by omega
      obtain ⟨rt, hrt⟩ : ∃ y, y = e.rights := ⟨_, rfl⟩
      rw [← hrt] at ce HCK
      clear hck hst hge he hk2 hra hrb r1 r2 hrt
      go_wp2_with fail
      refine HRK.out.mono ?_
      rintro e w' ⟨rfl, rfl⟩
      by_cases h1 : rb ≤ x
      · have g1 : decide ((rb : Int) ≤ (x : Int)) = true := by rw [decide_eq_true_eq]; omega
        have hc : checkN L x t right = checkFrom L x t right (n - (k + 1)) (k + 1) := by rw [HCK.out, if_neg (by simp only [Bool.and_eq_true, decide_eq_true_eq]; omega)]
        have HC := Lib.hid hc
        clear hc
        go_wp2
        exact ⟨⟨k + 1, HK.out, by rw [HW.out], by first | rfl | trivial, HC.out⟩, by rw [HW.out]; simp only [intOf, Int.toNat_natCast]; have := HK.out; omega⟩
      · have g1 : decide ((rb : Int) ≤ (x : Int)) = false := by rw [decide_eq_false_iff_not]; omega
        by_cases h2 : t ≤ ra
        · have g2 : decide ((t : Int) ≤ (ra : Int)) = true := by rw [decide_eq_true_eq]; omega
          have hc : checkN L x t right = checkFrom L x t right (n - (k + 1)) (k + 1) := by rw [HCK.out, if_neg (by simp only [Bool.and_eq_true, decide_eq_true_eq]; omega)]
          have HC := Lib.hid hc
          clear hc
          go_wp2
          exact ⟨⟨k + 1, HK.out, by rw [HW.out], by first | rfl | trivial, HC.out⟩, by rw [HW.out]; simp only [intOf, Int.toNat_natCast]; have := HK.out; omega⟩
        · have g2 : decide ((t : Int) ≤ (ra : Int)) = false := by rw [decide_eq_false_iff_not]; omega
          by_cases h3 : rb ≤ ra
          · have g3 : decide ((rb : Int) ≤ (ra : Int)) = true := by rw [decide_eq_true_eq]; omega
            have hc : checkN L x t right = checkFrom L x t right (n - (k + 1)) (k + 1) := by rw [HCK.out, if_neg (by simp only [Bool.and_eq_true, decide_eq_true_eq]; omega)]
            have HC := Lib.hid hc
            clear hc
            go_wp2
            exact ⟨⟨k + 1, HK.out, by rw [HW.out], by first | rfl | trivial, HC.out⟩, by rw [HW.out]; simp only [intOf, Int.toNat_natCast]; have := HK.out; omega⟩
          · have g3 : decide ((rb : Int) ≤ (ra : Int)) = false := by rw [decide_eq_false_iff_not]; omega
            have hc : checkN L x t right = (decide (ra ≤ x) && decide (t ≤ rb) && (bits .and .i64 rt right == right)) := by rw [HCK.out, if_pos (by simp only [Bool.and_eq_true, decide_eq_true_eq]; omega)]
            have HC := Lib.hid hc
            clear hc
            by_cases h4 : ra ≤ x
            · have g4 : decide ((ra : Int) ≤ (x : Int)) = true := by rw [decide_eq_true_eq]; omega
              by_cases h5 : t ≤ rb
              · have g5 : decide ((t : Int) ≤ (rb : Int)) = true := by rw [decide_eq_true_eq]; omega
                have hc := HC.out
                rw [decide_eq_true h4, decide_eq_true h5, Bool.true_and, Bool.true_and] at hc
                have HC2 := Lib.hid hc
                clear hc
                go_wp2
                go_ret
                refine ⟨?_, rfl⟩
                rw [HC2.out]
                rfl
              · have g5 : decide ((t : Int) ≤ (rb : Int)) = false := by rw [decide_eq_false_iff_not]; omega
                have hc := HC.out
                rw [decide_eq_false h5, Bool.and_false, Bool.false_and] at hc
                have HC2 := Lib.hid hc
                clear hc
                go_wp2
                go_ret
                refine ⟨?_, rfl⟩
                rw [HC2.out]
                rfl
            · have g4 : decide ((ra : Int) ≤ (x : Int)) = false := by rw [decide_eq_false_iff_not]; omega
              have hc := HC.out
              rw [decide_eq_false h4, Bool.false_and, Bool.false_and] at hc
              have HC2 := Lib.hid hc
              clear hc
              go_wp2
              go_ret
              refine ⟨?_, rfl⟩
              rw [HC2.out]
              rfl
    · obtain rfl : k = n := by omega
      have dk : decide ((k : Int) < (k : Int)) = false := by simp
      rw [Nat.sub_self] at hck
      have HC2 := Lib.hid hck
      clear hck
      go_wp2
      go_ret
      refine ⟨?_, rfl⟩
      rw [HC2.out]
      rfl
end Go.Proofs.L
