/- Proved here: lemmas and contracts (R24) for the laws of this seat, for all values of the stated types; no further condition. -/
import Derived.Test.YtjiiojbenbldlaaR23
open Go Go.RowKit Go.Lib
namespace Go.Proofs.L
attribute [local irreducible] wpT
theorem Chg.trans2 {w V w3 w4 : World} {mb : Nat} (h1 : Chg [] w V) (h2 : Chg [mb] V w3) (h3 : Chg [] w3 w4) (hm : w.heap.size ≤ mb) : Chg [] w w4 :=
  have h := h2.trans (chg_any h3)
  ⟨h.os.trans h1.os, h.tape.trans h1.tape, h.output.trans h1.output, Nat.le_trans h1.size h.size, fun k hk _ => (h.block k (Nat.lt_of_lt_of_le hk h1.size) (by rw [List.mem_singleton]; omega)).trans (h1.block k hk (by simp))⟩
set_option maxRecDepth 100000 in
set_option maxHeartbeats 16000000 in
theorem far_short (w : World) (x : Int) (hx1 : -2147483648 ≤ x) (hx2 : x ≤ 2147483647) : Calls Try.prog 5 #[.int .i32 x, .bool false] w fun e w' => e = .returned (.bool true) ∧ Chg [] w w' := by
  obtain ⟨u, hu, hxu, hsu, hev⟩ := way_u x hx1 hx2
  obtain ⟨add, hadd⟩ : ∃ a, a = (u + 2147487744) % 4294967296 := ⟨_, rfl⟩
  have hw1 : IntKind.u32.wrap ((u : Int) + 2147487744) = (add : Int) := addw_wrap (a := 2147487744) hadd
  have HB := Lib.hid (And.intro hx1 hx2)
  have HU := Lib.hid hu
  have HS := Lib.hid hsu
  have HE := Lib.hid hev
  have HA := Lib.hid hadd
  clear hx1 hx2 hu hsu hev hadd
  go_enter Try.func5, Try.ntmps5
  go_wp2_with fail
  refine (fit_any w).mono ?_
  rintro e w1 ⟨rfl, hc1⟩
  have HC1 := Lib.hid hc1
  clear hc1
  go_wp2_with fail
  refine (new_ok w1).mono ?_
  rintro e w2 ⟨rfl, hw2⟩
  have HR : Hid (w2.row? w1.heap.size = some (mem fun _ => 0)) := Lib.hid (by rw [hw2]; exact new_row w1)
  have HC : Hid (Chg [] w1 w2) := Lib.hid (by rw [hw2]; exact (Chg.refl _ _).alloc _)
  obtain ⟨mb, hmb⟩ : ∃ b, b = w1.heap.size := ⟨_, rfl⟩
  rw [← hmb] at HR ⊢
  have HMB := Lib.hid hmb
  clear hw2 hmb
  go_wp2_with fail
  obtain ⟨V, hV⟩ : ∃ V, V = (((w2.alloc (.cells #[.int .u32 0, .int .i64 16, .int .i64 0, .int .u32 (add : Int)] 32)).alloc (.cells #[.int .u32 0, .slice none 0 0, .slice (some ⟨w2.heap.size, 0, none⟩) 1 1, .slice none 0 0] 30)).alloc (.cells #[.int .u32 2147487744, .int .u32 4, .int .i64 0] 52)) := ⟨_, rfl⟩
  obtain ⟨Y0, hY0⟩ : ∃ b, b = w2.heap.size := ⟨_, rfl⟩
  rw [← hV, ← hY0]
  rw [← hY0] at hV
  have hml := row_lt HR.out
  have hc : Chg [] w2 V := by rw [hV]; exact (((Chg.refl _ _).alloc _).alloc _).alloc _
  have hrR : V.row? Y0 = some #[.int .u32 0, .int .i64 16, .int .i64 0, .int .u32 (add : Int)] := by rw [hV, hY0, row_alloc_past _ _ _ (by simp; omega), row_alloc_past _ _ _ (by simp)]; exact row_alloc_at _ _ _ _ rfl
  have hrS : V.row? (Y0 + 1 + 1) = some #[.int .u32 2147487744, .int .u32 4, .int .i64 0] := by rw [hV, hY0]; exact row_alloc_at _ _ _ _ (by simp)
  have hrM : V.row? mb = some (mem zN) := by rw [hc.row hml (by simp)]; exact HR.out
  have HCV : Hid (Chg [] w V) := Lib.hid (HC1.out.trans (HC.out.trans hc))
  have hal : add < 4294967296 := by rw [HA.out]; exact Nat.mod_lt _ (by decide)
  have HMX : Hid (w.heap.size ≤ mb) := Lib.hid (by have := HC1.out.size; have := HMB.out; omega)
  have HAP : Hid (Calls Try.prog 11 #[.pointer (some ⟨mb, 0, none⟩), .agg #[.int .u32 0, .slice none 0 0, .slice (some ⟨Y0, 0, none⟩) 1 1, .slice none 0 0], .int .u32 2147487744, .slice (some ⟨Y0 + 1 + 1, 0, none⟩) 1 1] V (OneQ V mb (if farN u 13 then (14, zN) else (0, stN zN 4096 (setB 0 u) 4)))) := Lib.hid (by
    rw [← far_apply16 u add HU.out HA.out]
    exact apply_rows (bias := 2147487744) (Rs := [⟨0, 16, 0, add⟩]) (Ys := []) (Ss := [⟨2147487744, 4, 0⟩]) (Yb := Y0) hrR rfl (by intro r hr; rw [List.mem_singleton] at hr; rw [hr]; exact ⟨Nat.lt_of_lt_of_le (Nat.zero_lt_one) (by decide), hal⟩) (by intro j x hj; simp at hj) rfl (fun h => absurd h (by decide)) hrS rfl (by decide) (by decide) hrM zN_lt (by omega) (by omega) (by omega) (by decide) (by decide))
  clear hal hV hml hc hrR hrS hrM hY0
  refine HAP.out.mono ?_
  rintro e w3 ⟨rfl, hr3, hc3⟩
  have HC3 := Lib.hid hc3
  have HR3 := Lib.hid hr3
  clear hc3 hr3
  have hx1 := HB.out.1
  have hx2 := HB.out.2
  have wx : wrap64 x = x := IntWalk.wrap64_in _ ⟨by omega, by omega⟩
  clear hx1 hx2
  rcases farB u 13 with hf | hf
  · rw [hf, if_pos rfl] at HR3 ⊢
    have h1 := (far13_iff u).1 hf
    rw [HS.out, HE.out] at h1
    have HL : Hid (Calls Try.prog 13 #[.pointer (some ⟨mb, 0, none⟩), .int .u32 2147487744, .int .i64 4] w3 fun e w' => e = .returned (.tuple #[.int .u32 0, .int .i64 0]) ∧ Chg [] w3 w') := Lib.hid (by
      have h := load4_any zN zN_lt 2147487744 mb (by decide) w3 HR3.out
      rw [show ldN zN 2147487744 = (0, 0) from Prod.ext zN_ld zN_ld2] at h
      exact h)
    clear hf
    have p1 : x.tmod 2 = 0 ∨ ¬ x.tmod 2 = 0 := Decidable.em _
    have p2 : -4096 ≤ x ∨ ¬ -4096 ≤ x := Decidable.em _
    have h3 : (-4096 ≤ x ∧ x.tmod 2 = 0) → ¬ x < 4096 := fun h h' => h1 ⟨h.2, h.1, h'⟩
    have H3 := Lib.hid h3
    clear h1 h3
    rcases p1 with p1 | p1
    · rcases p2 with p2 | p2
      · have p3 := Int.not_lt.1 (H3.out ⟨p2, p1⟩)
        have p4 : (x < 4096) = False := eq_false (H3.out ⟨p2, p1⟩)
        go_wp2_with fail
        refine HL.out.mono ?_
        rintro e w4 ⟨rfl, hc4⟩
        have HC4 := Lib.hid (HCV.out.trans2 HC3.out hc4 HMX.out)
        clear hc4
        go_wp2
        go_ret
        exact ⟨rfl, HC4.out⟩
      · go_wp2_with fail
        refine HL.out.mono ?_
        rintro e w4 ⟨rfl, hc4⟩
        have HC4 := Lib.hid (HCV.out.trans2 HC3.out hc4 HMX.out)
        clear hc4
        go_wp2
        go_ret
        exact ⟨rfl, HC4.out⟩
    · clear p2
      go_wp2_with fail
      refine HL.out.mono ?_
      rintro e w4 ⟨rfl, hc4⟩
      have HC4 := Lib.hid (HCV.out.trans2 HC3.out hc4 HMX.out)
      clear hc4
      go_wp2
      go_ret
      exact ⟨rfl, HC4.out⟩
  · rw [hf, if_neg (by decide)] at HR3 ⊢
    have h1 : ¬ ¬ (u % 2 = 0 ∧ -4096 ≤ s32 u ∧ s32 u < 4096) := fun h => by have := (far13_iff u).2 h; rw [hf] at this; exact absurd this (by decide)
    rw [HS.out, HE.out] at h1
    have p1 := (Decidable.not_not.1 h1).1
    have p2 := (Decidable.not_not.1 h1).2.1
    have p3 := (Decidable.not_not.1 h1).2.2
    have hsl := setB_lt 0 u
    have HL : Hid (Calls Try.prog 13 #[.pointer (some ⟨mb, 0, none⟩), .int .u32 2147487744, .int .i64 4] w3 fun e w' => e = .returned (.tuple #[.int .u32 ((setB 0 u : Nat) : Int), .int .i64 0]) ∧ Chg [] w3 w') := Lib.hid (by
      have h := load4_any (stN zN 4096 (setB 0 u) 4) (fun i => stN_lt _ zN_lt _ _ _ i) 2147487744 mb (by decide) w3 HR3.out
      rw [ld_at _ hsl] at h
      exact h)
    have hn : rB (setB 0 u) = x := by rw [near13 0 u HU.out hf]; exact HS.out
    obtain ⟨S, hS⟩ : ∃ S, S = setB 0 u := ⟨_, rfl⟩
    rw [← hS] at HL hn hsl
    have HN := Lib.hid hn
    have HSL := Lib.hid hsl
    have WS : Hid (wrap64 (S : Int) = (S : Int)) := Lib.hid (IntWalk.wrap64_in _ ⟨by omega, by omega⟩)
    clear hf h1 hS hn hsl HR3
    go_wp2_with fail
    refine HL.out.mono ?_
    rintro e w4 ⟨rfl, hc4⟩
    have HC4 := Lib.hid (HCV.out.trans2 HC3.out hc4 HMX.out)
    have ws := WS.out
    clear hc4
    go_wp2_with fail
    refine (rimm_B S HSL.out w4).mono ?_
    rintro e w5 ⟨rfl, hc5⟩
    have hn : sgn 13 ((S / 2147483648 % 2) * 4096 + (S / 128 % 2) * 2048 + (S / 33554432 % 64) * 32 + (S / 256 % 16) * 2) = x := HN.out
    rw [hn]
    go_wp2
    go_ret
    exact ⟨rfl, HC4.out.trans hc5⟩
set_option maxRecDepth 100000 in
set_option maxHeartbeats 16000000 in
theorem far_long (w : World) (x : Int) (hx1 : -2147483648 ≤ x) (hx2 : x ≤ 2147483647) : Calls Try.prog 5 #[.int .i32 x, .bool true] w fun e w' => e = .returned (.bool true) ∧ Chg [] w w' := by
  obtain ⟨u, hu, hxu, hsu, hev⟩ := way_u x hx1 hx2
  obtain ⟨add, hadd⟩ : ∃ a, a = (u + 2147487744) % 4294967296 := ⟨_, rfl⟩
  have hw1 : IntKind.u32.wrap ((u : Int) + 2147487744) = (add : Int) := addw_wrap (a := 2147487744) hadd
  have HB := Lib.hid (And.intro hx1 hx2)
  have HU := Lib.hid hu
  have HS := Lib.hid hsu
  have HE := Lib.hid hev
  have HA := Lib.hid hadd
  clear hx1 hx2 hu hsu hev hadd
  go_enter Try.func5, Try.ntmps5
  go_wp2_with fail
  refine (fit_any w).mono ?_
  rintro e w1 ⟨rfl, hc1⟩
  have HC1 := Lib.hid hc1
  clear hc1
  go_wp2_with fail
  refine (new_ok w1).mono ?_
  rintro e w2 ⟨rfl, hw2⟩
  have HR : Hid (w2.row? w1.heap.size = some (mem fun _ => 0)) := Lib.hid (by rw [hw2]; exact new_row w1)
  have HC : Hid (Chg [] w1 w2) := Lib.hid (by rw [hw2]; exact (Chg.refl _ _).alloc _)
  obtain ⟨mb, hmb⟩ : ∃ b, b = w1.heap.size := ⟨_, rfl⟩
  rw [← hmb] at HR ⊢
  have HMB := Lib.hid hmb
  clear hw2 hmb
  go_wp2_with fail
  obtain ⟨V, hV⟩ : ∃ V, V = (((w2.alloc (.cells #[.int .u32 0, .int .i64 17, .int .i64 0, .int .u32 (add : Int)] 32)).alloc (.cells #[.int .u32 0, .slice none 0 0, .slice (some ⟨w2.heap.size, 0, none⟩) 1 1, .slice none 0 0] 30)).alloc (.cells #[.int .u32 2147487744, .int .u32 4, .int .i64 0] 52)) := ⟨_, rfl⟩
  obtain ⟨Y0, hY0⟩ : ∃ b, b = w2.heap.size := ⟨_, rfl⟩
  rw [← hV, ← hY0]
  rw [← hY0] at hV
  have hml := row_lt HR.out
  have hc : Chg [] w2 V := by rw [hV]; exact (((Chg.refl _ _).alloc _).alloc _).alloc _
  have hrR : V.row? Y0 = some #[.int .u32 0, .int .i64 17, .int .i64 0, .int .u32 (add : Int)] := by rw [hV, hY0, row_alloc_past _ _ _ (by simp; omega), row_alloc_past _ _ _ (by simp)]; exact row_alloc_at _ _ _ _ rfl
  have hrS : V.row? (Y0 + 1 + 1) = some #[.int .u32 2147487744, .int .u32 4, .int .i64 0] := by rw [hV, hY0]; exact row_alloc_at _ _ _ _ (by simp)
  have hrM : V.row? mb = some (mem zN) := by rw [hc.row hml (by simp)]; exact HR.out
  have HCV : Hid (Chg [] w V) := Lib.hid (HC1.out.trans (HC.out.trans hc))
  have hal : add < 4294967296 := by rw [HA.out]; exact Nat.mod_lt _ (by decide)
  have HMX : Hid (w.heap.size ≤ mb) := Lib.hid (by have := HC1.out.size; have := HMB.out; omega)
  have HAP : Hid (Calls Try.prog 11 #[.pointer (some ⟨mb, 0, none⟩), .agg #[.int .u32 0, .slice none 0 0, .slice (some ⟨Y0, 0, none⟩) 1 1, .slice none 0 0], .int .u32 2147487744, .slice (some ⟨Y0 + 1 + 1, 0, none⟩) 1 1] V (OneQ V mb (if farN u 21 then (14, zN) else (0, stN zN 4096 (setJ 0 u) 4)))) := Lib.hid (by
    rw [← far_apply17 u add HU.out HA.out]
    exact apply_rows (bias := 2147487744) (Rs := [⟨0, 17, 0, add⟩]) (Ys := []) (Ss := [⟨2147487744, 4, 0⟩]) (Yb := Y0) hrR rfl (by intro r hr; rw [List.mem_singleton] at hr; rw [hr]; exact ⟨Nat.lt_of_lt_of_le (Nat.zero_lt_one) (by decide), hal⟩) (by intro j x hj; simp at hj) rfl (fun h => absurd h (by decide)) hrS rfl (by decide) (by decide) hrM zN_lt (by omega) (by omega) (by omega) (by decide) (by decide))
  clear hal hV hml hc hrR hrS hrM hY0
  refine HAP.out.mono ?_
  rintro e w3 ⟨rfl, hr3, hc3⟩
  have HC3 := Lib.hid hc3
  have HR3 := Lib.hid hr3
  clear hc3 hr3
  have hx1 := HB.out.1
  have hx2 := HB.out.2
  have wx : wrap64 x = x := IntWalk.wrap64_in _ ⟨by omega, by omega⟩
  clear hx1 hx2
  rcases farB u 21 with hf | hf
  · rw [hf, if_pos rfl] at HR3 ⊢
    have h1 := (far21_iff u).1 hf
    rw [HS.out, HE.out] at h1
    have HL : Hid (Calls Try.prog 13 #[.pointer (some ⟨mb, 0, none⟩), .int .u32 2147487744, .int .i64 4] w3 fun e w' => e = .returned (.tuple #[.int .u32 0, .int .i64 0]) ∧ Chg [] w3 w') := Lib.hid (by
      have h := load4_any zN zN_lt 2147487744 mb (by decide) w3 HR3.out
      rw [show ldN zN 2147487744 = (0, 0) from Prod.ext zN_ld zN_ld2] at h
      exact h)
    clear hf
    have p1 : x.tmod 2 = 0 ∨ ¬ x.tmod 2 = 0 := Decidable.em _
    have p2 : -1048576 ≤ x ∨ ¬ -1048576 ≤ x := Decidable.em _
    have h3 : (-1048576 ≤ x ∧ x.tmod 2 = 0) → ¬ x < 1048576 := fun h h' => h1 ⟨h.2, h.1, h'⟩
    have H3 := Lib.hid h3
    clear h1 h3
    rcases p1 with p1 | p1
    · rcases p2 with p2 | p2
      · have p3 := Int.not_lt.1 (H3.out ⟨p2, p1⟩)
        have p4 : (x < 1048576) = False := eq_false (H3.out ⟨p2, p1⟩)
        go_wp2_with fail
        refine HL.out.mono ?_
        rintro e w4 ⟨rfl, hc4⟩
        have HC4 := Lib.hid (HCV.out.trans2 HC3.out hc4 HMX.out)
        clear hc4
        go_wp2
        go_ret
        exact ⟨rfl, HC4.out⟩
      · go_wp2_with fail
        refine HL.out.mono ?_
        rintro e w4 ⟨rfl, hc4⟩
        have HC4 := Lib.hid (HCV.out.trans2 HC3.out hc4 HMX.out)
        clear hc4
        go_wp2
        go_ret
        exact ⟨rfl, HC4.out⟩
    · clear p2
      go_wp2_with fail
      refine HL.out.mono ?_
      rintro e w4 ⟨rfl, hc4⟩
      have HC4 := Lib.hid (HCV.out.trans2 HC3.out hc4 HMX.out)
      clear hc4
      go_wp2
      go_ret
      exact ⟨rfl, HC4.out⟩
  · rw [hf, if_neg (by decide)] at HR3 ⊢
    have h1 : ¬ ¬ (u % 2 = 0 ∧ -1048576 ≤ s32 u ∧ s32 u < 1048576) := fun h => by have := (far21_iff u).2 h; rw [hf] at this; exact absurd this (by decide)
    rw [HS.out, HE.out] at h1
    have p1 := (Decidable.not_not.1 h1).1
    have p2 := (Decidable.not_not.1 h1).2.1
    have p3 := (Decidable.not_not.1 h1).2.2
    have hsl := setJ_lt 0 u
    have HL : Hid (Calls Try.prog 13 #[.pointer (some ⟨mb, 0, none⟩), .int .u32 2147487744, .int .i64 4] w3 fun e w' => e = .returned (.tuple #[.int .u32 ((setJ 0 u : Nat) : Int), .int .i64 0]) ∧ Chg [] w3 w') := Lib.hid (by
      have h := load4_any (stN zN 4096 (setJ 0 u) 4) (fun i => stN_lt _ zN_lt _ _ _ i) 2147487744 mb (by decide) w3 HR3.out
      rw [ld_at _ hsl] at h
      exact h)
    have hn : rJ (setJ 0 u) = x := by rw [near21 0 u HU.out hf]; exact HS.out
    obtain ⟨S, hS⟩ : ∃ S, S = setJ 0 u := ⟨_, rfl⟩
    rw [← hS] at HL hn hsl
    have HN := Lib.hid hn
    have HSL := Lib.hid hsl
    have WS : Hid (wrap64 (S : Int) = (S : Int)) := Lib.hid (IntWalk.wrap64_in _ ⟨by omega, by omega⟩)
    clear hf h1 hS hn hsl HR3
    go_wp2_with fail
    refine HL.out.mono ?_
    rintro e w4 ⟨rfl, hc4⟩
    have HC4 := Lib.hid (HCV.out.trans2 HC3.out hc4 HMX.out)
    have ws := WS.out
    clear hc4
    go_wp2_with fail
    refine (rimm_J S HSL.out w4).mono ?_
    rintro e w5 ⟨rfl, hc5⟩
    have hn : sgn 21 ((S / 2147483648 % 2) * 1048576 + (S / 4096 % 256) * 4096 + (S / 1048576 % 2) * 2048 + (S / 2097152 % 1024) * 2) = x := HN.out
    rw [hn]
    go_wp2
    go_ret
    exact ⟨rfl, HC4.out.trans hc5⟩
theorem far_walk (w : World) (x : Int) (l : Bool) (hx1 : -2147483648 ≤ x) (hx2 : x ≤ 2147483647) : Calls Try.prog 5 #[.int .i32 x, .bool l] w fun e w' => e = .returned (.bool true) ∧ Chg [] w w' := by
  cases l with
  | false => exact far_short w x hx1 hx2
  | true => exact far_long w x hx1 hx2
end Go.Proofs.L
