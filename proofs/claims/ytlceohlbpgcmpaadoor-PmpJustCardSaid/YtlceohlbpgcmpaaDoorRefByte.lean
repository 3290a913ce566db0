/- Proved here: lemmas and contracts (RefByte) for the laws of this seat, for all values of the stated types; no further condition. -/
import Derived.Test.YtlceohlbpgcmpaaDoorRefRange
open Go Go.RowKit Go.Lib
namespace Go.Proofs.L
attribute [local irreducible] wpT
set_option maxRecDepth 100000 in
set_option maxHeartbeats 1600000 in
theorem rbyte_any {w : World} {p : Option Addr} {b o n c : Nat} {L : List Ent} (hE : EntsAt w b o L) (hn : L.length = n) (hp : 0 < n → p = some ⟨b, o, none⟩) (hn6 : n ≤ 40) (x : Nat) :
    Calls Tryd.prog 18 #[.slice p n c, .int .i64 (x : Int)] w fun e w' => e = .returned (.int .i64 (byteX (rngs 0 L) x)) ∧ w' = w := by
  have HE := Lib.hid hE
  have HN := Lib.hid hn
  have HP := Lib.hid hp
  have HN6 := Lib.hid hn6
  have HXL : Hid ((rngs 0 L).length = n) := Lib.hid (by rw [rngs_len]; exact hn)
  obtain ⟨z, hz⟩ : ∃ z, z = byteX (rngs 0 L) x := ⟨_, rfl⟩
  rw [← hz]
  have HZ := Lib.hid hz
  clear hE hn hp hn6 hz
  go_enter Tryd.func18, Tryd.ntmps18
  go_wp2_with fail
  go_loopw [5, 6, 7] (fun i _ _ wr => ∃ t : Nat, t ≤ n ∧ i = .int .i64 t ∧ wr = w ∧ z = byteX ((rngs 0 L).drop t) x) (fun i _ _ _ => n - (intOf i).toNat)
  case atStart => exact ⟨0, by omega, rfl, rfl, HZ.out⟩
  case round =>
    obtain ⟨t, ht, rfl, hwx, hrt⟩ := hrel
    obtain rfl := hwx.symm
    have HRT := Lib.hid hrt
    clear hrt
    by_cases ht2 : t < n
    · have HTK := Lib.hid ht2
      have HWI : Hid (wrap64 ((t : Int) + 1) = ((t + 1 : Nat) : Int)) := Lib.hid (wrap1 t (by have := HN6.out; omega))
      have dt : decide ((t : Int) < (n : Int)) = true := by rw [decide_eq_true_eq]; omega
      have htI : (t : Int) < (n : Int) := by omega
      have hpp := HP.out (by omega)
      subst hpp
      obtain ⟨e, he⟩ : ∃ e, L[t]? = some e := ⟨_, List.getElem?_eq_getElem (by have := HN.out; omega)⟩
      have hx := rngs_range he
      have hl2 : t < (rngs 0 L).length := by have := HXL.out; omega
      have HRG := Lib.hid (rrange_any (c := c) HE.out HN.out t ht2 (by have := HN6.out; omega))
      obtain ⟨ra, hra⟩ : ∃ y, y = (rangeN L t).1 := ⟨_, rfl⟩
      obtain ⟨rb, hrb⟩ : ∃ y, y = (rangeN L t).2 := ⟨_, rfl⟩
      rw [← hra, ← hrb] at HRG hx
      have hdrop : (rngs 0 L).drop t = (ra, rb, e.rights) :: (rngs 0 L).drop (t + 1) := by
        rw [List.drop_eq_getElem_cons hl2]
        rw [List.getElem?_eq_getElem hl2] at hx
        rw [Option.some.inj hx]
      obtain ⟨er, her⟩ : ∃ r, r = e.rights := ⟨_, rfl⟩
      have ce := (HE.out t e he).c1
      rw [← her] at hdrop ce
      have HD : Hid (z = if ra ≤ x ∧ x < rb then er else byteX ((rngs 0 L).drop (t + 1)) x) := Lib.hid (by rw [HRT.out, hdrop]; rfl)
      clear hra hrb her hx hdrop hl2 he ht2
      go_wp2_with fail
      refine HRG.out.mono ?_
      rintro e' w' ⟨rfl, hw'⟩
      obtain rfl := hw'.symm
      by_cases g1 : ra ≤ x
      · have dg1 : decide ((ra : Int) ≤ (x : Int)) = true := by rw [decide_eq_true_eq]; omega
        by_cases g2 : x < rb
        · have dg2 : decide ((x : Int) < (rb : Int)) = true := by rw [decide_eq_true_eq]; omega
          have HRE : Hid (z = er) := Lib.hid (by rw [HD.out, if_pos ⟨g1, g2⟩])
          go_wp2
          go_ret
          exact ⟨by rw [HRE.out]; rfl, rfl⟩
        · have dg2 : decide ((x : Int) < (rb : Int)) = false := by rw [decide_eq_false_iff_not]; omega
          have HRE : Hid (z = byteX ((rngs 0 L).drop (t + 1)) x) := Lib.hid (by rw [HD.out, if_neg (by omega)])
          go_wp2
          case roundEnd => exact ⟨⟨t + 1, HTK.out, by rw [HWI.out], by first | rfl | trivial, HRE.out⟩, by rw [HWI.out]; simp only [intOf, Int.toNat_natCast]; have := HTK.out; omega⟩
      · have dg1 : decide ((ra : Int) ≤ (x : Int)) = false := by rw [decide_eq_false_iff_not]; omega
        have HRE : Hid (z = byteX ((rngs 0 L).drop (t + 1)) x) := Lib.hid (by rw [HD.out, if_neg (by omega)])
        go_wp2
        case roundEnd => exact ⟨⟨t + 1, HTK.out, by rw [HWI.out], by first | rfl | trivial, HRE.out⟩, by rw [HWI.out]; simp only [intOf, Int.toNat_natCast]; have := HTK.out; omega⟩
    · have htk : t = n := by omega
      have dt : decide ((t : Int) < (n : Int)) = false := by rw [decide_eq_false_iff_not]; omega
      have HR00 : Hid (z = 0) := Lib.hid (by rw [HRT.out, List.drop_eq_nil_of_le (by have := HXL.out; omega)]; rfl)
      clear htk
      go_wp2
      go_ret
      exact ⟨by rw [HR00.out]; rfl, rfl⟩
theorem cap_max {P : Program} {w : World} {r : Reach} {base : Nat} {t e : TypeId} {p : Option Addr} {n c : Nat} (ht : P.underlying t = some (.slice e)) (h : Value.okWide P w r base t (.slice p n c)) : n ≤ 9223372036854775807 := by
  have h1 := cap_le ht h
  unfold Value.okWide at h
  rw [ht] at h
  simp only [] at h
  unfold Cell.okWide at h
  rw [ht] at h
  simp only [] at h
  unfold Cell.ok at h
  rw [ht] at h
  match p, n, c, h, h1 with
  | none, 0, 0, _, _ => omega
  | some a, _, c, h, h1 =>
    have := h.2.1
    have e : IntKind.i64.max = 9223372036854775807 := by decide
    rw [e] at this
    omega
/-- what plain gives back -/
def PlainQ (w : World) (n : Nat) (e : Ending) (w' : World) : Prop := ∃ r, e = .returned (.bool r) ∧ Chg [] w w' ∧ (r = true → n ≤ 40)
set_option maxRecDepth 100000 in
set_option maxHeartbeats 1600000 in
theorem plain_any {w : World} {p : Option Addr} {b o n c : Nat} {L : List Ent} (hE : EntsAt w b o L) (hn : L.length = n) (hp : 0 < n → p = some ⟨b, o, none⟩) (hmax : n ≤ 9223372036854775807) :
    Calls Tryd.prog 16 #[.slice p n c] w (PlainQ w n) := by
  have HE := Lib.hid hE
  have HN := Lib.hid hn
  have HP := Lib.hid hp
  have HMX := Lib.hid hmax
  clear hE hn hp hmax
  go_enter Tryd.func16, Tryd.ntmps16
  go_wp2_with fail
  go_loopw [7, 4] (fun i _ wr => ∃ t : Nat, t ≤ n ∧ i = .int .i64 t ∧ Chg [] w wr) (fun i _ _ => n - (intOf i).toNat)
  case atStart => exact ⟨0, by omega, rfl, Chg.refl _ _⟩
  case round =>
    obtain ⟨t, ht, rfl, hch⟩ := hrel
    have HC := Lib.hid hch
    clear hch
    by_cases ht2 : t < n
    · have HTK := Lib.hid ht2
      have HWI : Hid (wrap64 ((t : Int) + 1) = ((t + 1 : Nat) : Int)) := Lib.hid (by have := HMX.out; rw [IntWalk.wrap64_in _ ⟨by omega, by omega⟩]; omega)
      have dt : decide ((t : Int) < (n : Int)) = true := by rw [decide_eq_true_eq]; omega
      have htI : (t : Int) < (n : Int) := by omega
      have hpp := HP.out (by omega)
      subst hpp
      obtain ⟨⟨wy, rt, ad⟩, he⟩ : ∃ e, L[t]? = some e := ⟨_, List.getElem?_eq_getElem (by have := HN.out; omega)⟩
      obtain ⟨c0, c1, c2, -⟩ := (HE.out.keep HC.out) t _ he
      simp only [] at c0 c1 c2
      have HCA : Hid (Chg [] w (wr.alloc (.cells #[.int .i64 wy, .int .i64 rt, .int .u32 (ad : Int)] 32))) := Lib.hid (HC.out.alloc _)
      clear he ht2
      by_cases q0 : wy < 0
      · have n0 : decide (wy < 0) = true := by rw [decide_eq_true_eq]; omega
        go_wp2
        go_ret
        exact ⟨false, rfl, HCA.out, fun h => by cases h⟩
      have n0 : decide (wy < 0) = false := by rw [decide_eq_false_iff_not]; omega
      by_cases q1 : 3 < wy
      · have n1 : decide (3 < wy) = true := by rw [decide_eq_true_eq]; omega
        go_wp2
        go_ret
        exact ⟨false, rfl, HCA.out, fun h => by cases h⟩
      have n1 : decide (3 < wy) = false := by rw [decide_eq_false_iff_not]; omega
      by_cases q2 : rt < 0
      · have n2 : decide (rt < 0) = true := by rw [decide_eq_true_eq]; omega
        go_wp2
        go_ret
        exact ⟨false, rfl, HCA.out, fun h => by cases h⟩
      have n2 : decide (rt < 0) = false := by rw [decide_eq_false_iff_not]; omega
      by_cases q3 : 7 < rt
      · have n3 : decide (7 < rt) = true := by rw [decide_eq_true_eq]; omega
        go_wp2
        go_ret
        exact ⟨false, rfl, HCA.out, fun h => by cases h⟩
      have n3 : decide (7 < rt) = false := by rw [decide_eq_false_iff_not]; omega
      go_wp2
      case roundEnd => exact ⟨⟨t + 1, HTK.out, by rw [HWI.out], HCA.out⟩, by rw [HWI.out]; simp only [intOf, Int.toNat_natCast]; have := HTK.out; omega⟩
    · have dt : decide ((t : Int) < (n : Int)) = false := by rw [decide_eq_false_iff_not]; omega
      by_cases h40 : n ≤ 40
      · have d4 : decide ((n : Int) ≤ 40) = true := by rw [decide_eq_true_eq]; omega
        have H40 := Lib.hid h40
        go_wp2
        go_ret
        exact ⟨true, rfl, HC.out, fun _ => H40.out⟩
      · have d4 : decide ((n : Int) ≤ 40) = false := by rw [decide_eq_false_iff_not]; omega
        go_wp2
        go_ret
        exact ⟨false, rfl, HC.out, fun h => by cases h⟩
end Go.Proofs.L
