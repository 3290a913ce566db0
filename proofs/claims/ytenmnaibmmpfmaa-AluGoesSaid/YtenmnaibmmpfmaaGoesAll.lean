/- Proved here: lemmas and contracts (GoesAll) for the laws of this seat, for all values of the stated types; no further condition. -/
import Derived.Test.YtenmnaibmmpfmaaFit
open Go Go.RowKit Go.Lib
namespace Go.Proofs.L
theorem goes_any (k : Int) (a b : Nat) (ha : a < 4294967296) (hb : b < 4294967296) (w : World) : Calls Try.prog 11 #[.int .i64 k, .int .u32 a, .int .u32 b] w fun e w' => e = .returned (.tuple #[.bool (gB k a b), .bool (gIs k)]) ∧ w' = w := by
  by_cases hk : 5 ≤ k ∧ k ≤ 10
  · have hk : k = 5 ∨ k = 6 ∨ k = 7 ∨ k = 8 ∨ k = 9 ∨ k = 10 := by omega
    rcases hk with rfl | rfl | rfl | rfl | rfl | rfl
    · exact goes5 a b ha hb w
    · exact goes6 a b ha hb w
    · exact goes7 a b ha hb w
    · exact goes8 a b ha hb w
    · exact goes9 a b ha hb w
    · exact goes10 a b ha hb w
  · have h1 : gB k a b = false := by unfold gB; rw [if_neg (by omega), if_neg (by omega), if_neg (by omega), if_neg (by omega), if_neg (by omega), if_neg (by omega)]
    have h2 : gIs k = false := decide_eq_false hk
    rw [h1, h2]
    exact goes_out k a b hk w
theorem rgoes_any (k : Int) (a b : Nat) (ha : a < 4294967296) (hb : b < 4294967296) (w : World) : Calls Try.prog 12 #[.int .i64 k, .int .i64 a, .int .i64 b] w fun e w' => e = .returned (.tuple #[.bool (gB k a b), .bool (gIs k)]) ∧ Below w.heap.size w w' := by
  by_cases hk : k < 1 ∨ 46 ≤ k
  · have h1 : gB k a b = false := by unfold gB; rw [if_neg (by omega), if_neg (by omega), if_neg (by omega), if_neg (by omega), if_neg (by omega), if_neg (by omega)]
    have h2 : gIs k = false := decide_eq_false (by omega)
    rw [h1, h2]
    exact rgoes_out k a b hk w
  · have hk : k = 1 ∨ k = 2 ∨ k = 3 ∨ k = 4 ∨ k = 5 ∨ k = 6 ∨ k = 7 ∨ k = 8 ∨ k = 9 ∨ k = 10 ∨ k = 11 ∨ k = 12 ∨ k = 13 ∨ k = 14 ∨ k = 15 ∨ k = 16 ∨ k = 17 ∨ k = 18 ∨ k = 19 ∨ k = 20 ∨ k = 21 ∨ k = 22 ∨ k = 23 ∨ k = 24 ∨ k = 25 ∨ k = 26 ∨ k = 27 ∨ k = 28 ∨ k = 29 ∨ k = 30 ∨ k = 31 ∨ k = 32 ∨ k = 33 ∨ k = 34 ∨ k = 35 ∨ k = 36 ∨ k = 37 ∨ k = 38 ∨ k = 39 ∨ k = 40 ∨ k = 41 ∨ k = 42 ∨ k = 43 ∨ k = 44 ∨ k = 45 := by omega
    rcases hk with rfl | rfl | rfl | rfl | rfl | rfl | rfl | rfl | rfl | rfl | rfl | rfl | rfl | rfl | rfl | rfl | rfl | rfl | rfl | rfl | rfl | rfl | rfl | rfl | rfl | rfl | rfl | rfl | rfl | rfl | rfl | rfl | rfl | rfl | rfl | rfl | rfl | rfl | rfl | rfl | rfl | rfl | rfl | rfl | rfl
    · exact rgoes1 a b w
    · exact rgoes2 a b w
    · exact rgoes3 a b w
    · exact rgoes4 a b w
    · exact rgoes5 a b ha hb w
    · exact rgoes6 a b ha hb w
    · exact rgoes7 a b ha hb w
    · exact rgoes8 a b ha hb w
    · exact rgoes9 a b ha hb w
    · exact rgoes10 a b ha hb w
    · exact rgoes11 a b w
    · exact rgoes12 a b w
    · exact rgoes13 a b w
    · exact rgoes14 a b w
    · exact rgoes15 a b w
    · exact rgoes16 a b w
    · exact rgoes17 a b w
    · exact rgoes18 a b w
    · exact rgoes19 a b w
    · exact rgoes20 a b w
    · exact rgoes21 a b w
    · exact rgoes22 a b w
    · exact rgoes23 a b w
    · exact rgoes24 a b w
    · exact rgoes25 a b w
    · exact rgoes26 a b w
    · exact rgoes27 a b w
    · exact rgoes28 a b w
    · exact rgoes29 a b w
    · exact rgoes30 a b w
    · exact rgoes31 a b w
    · exact rgoes32 a b w
    · exact rgoes33 a b w
    · exact rgoes34 a b w
    · exact rgoes35 a b w
    · exact rgoes36 a b w
    · exact rgoes37 a b w
    · exact rgoes38 a b w
    · exact rgoes39 a b w
    · exact rgoes40 a b w
    · exact rgoes41 a b w
    · exact rgoes42 a b w
    · exact rgoes43 a b w
    · exact rgoes44 a b w
    · exact rgoes45 a b w
theorem width_any (k : Int) (w : World) : Calls Try.prog 13 #[.int .i64 k] w fun e w' => e = .returned (.int .i64 (wd k)) ∧ w' = w := by
  by_cases hk : 11 ≤ k ∧ k ≤ 18
  · have hk : k = 11 ∨ k = 12 ∨ k = 13 ∨ k = 14 ∨ k = 15 ∨ k = 16 ∨ k = 17 ∨ k = 18 := by omega
    rcases hk with rfl | rfl | rfl | rfl | rfl | rfl | rfl | rfl
    · exact width11 w
    · exact width12 w
    · exact width13 w
    · exact width14 w
    · exact width15 w
    · exact width16 w
    · exact width17 w
    · exact width18 w
  · have h1 : wd k = 0 := by unfold wd; rw [if_neg (by omega), if_neg (by omega), if_neg (by omega)]
    rw [h1]
    exact width_out k hk w
theorem rwidth_any (k : Int) (w : World) : Calls Try.prog 14 #[.int .i64 k] w fun e w' => e = .returned (.int .i64 (wd k)) ∧ Below w.heap.size w w' := by
  by_cases hk : k < 1 ∨ 46 ≤ k
  · have h1 : wd k = 0 := by unfold wd; rw [if_neg (by omega), if_neg (by omega), if_neg (by omega)]
    rw [h1]
    exact rwidth_out k hk w
  · have hk : k = 1 ∨ k = 2 ∨ k = 3 ∨ k = 4 ∨ k = 5 ∨ k = 6 ∨ k = 7 ∨ k = 8 ∨ k = 9 ∨ k = 10 ∨ k = 11 ∨ k = 12 ∨ k = 13 ∨ k = 14 ∨ k = 15 ∨ k = 16 ∨ k = 17 ∨ k = 18 ∨ k = 19 ∨ k = 20 ∨ k = 21 ∨ k = 22 ∨ k = 23 ∨ k = 24 ∨ k = 25 ∨ k = 26 ∨ k = 27 ∨ k = 28 ∨ k = 29 ∨ k = 30 ∨ k = 31 ∨ k = 32 ∨ k = 33 ∨ k = 34 ∨ k = 35 ∨ k = 36 ∨ k = 37 ∨ k = 38 ∨ k = 39 ∨ k = 40 ∨ k = 41 ∨ k = 42 ∨ k = 43 ∨ k = 44 ∨ k = 45 := by omega
    rcases hk with rfl | rfl | rfl | rfl | rfl | rfl | rfl | rfl | rfl | rfl | rfl | rfl | rfl | rfl | rfl | rfl | rfl | rfl | rfl | rfl | rfl | rfl | rfl | rfl | rfl | rfl | rfl | rfl | rfl | rfl | rfl | rfl | rfl | rfl | rfl | rfl | rfl | rfl | rfl | rfl | rfl | rfl | rfl | rfl | rfl
    · exact rwidth1 w
    · exact rwidth2 w
    · exact rwidth3 w
    · exact rwidth4 w
    · exact rwidth5 w
    · exact rwidth6 w
    · exact rwidth7 w
    · exact rwidth8 w
    · exact rwidth9 w
    · exact rwidth10 w
    · exact rwidth11 w
    · exact rwidth12 w
    · exact rwidth13 w
    · exact rwidth14 w
    · exact rwidth15 w
    · exact rwidth16 w
    · exact rwidth17 w
    · exact rwidth18 w
    · exact rwidth19 w
    · exact rwidth20 w
    · exact rwidth21 w
    · exact rwidth22 w
    · exact rwidth23 w
    · exact rwidth24 w
    · exact rwidth25 w
    · exact rwidth26 w
    · exact rwidth27 w
    · exact rwidth28 w
    · exact rwidth29 w
    · exact rwidth30 w
    · exact rwidth31 w
    · exact rwidth32 w
    · exact rwidth33 w
    · exact rwidth34 w
    · exact rwidth35 w
    · exact rwidth36 w
    · exact rwidth37 w
    · exact rwidth38 w
    · exact rwidth39 w
    · exact rwidth40 w
    · exact rwidth41 w
    · exact rwidth42 w
    · exact rwidth43 w
    · exact rwidth44 w
    · exact rwidth45 w
theorem widen_any (k : Int) (x : Nat) (hx : x < 4294967296) (w : World) : Calls Try.prog 15 #[.int .i64 k, .int .u32 x] w fun e w' => e = .returned (.int .u32 (we k x)) ∧ w' = w := by
  by_cases hk : k = 11 ∨ k = 12 ∨ k = 14 ∨ k = 15
  · rcases hk with rfl | rfl | rfl | rfl
    · exact widen11 x hx w
    · exact widen12 x hx w
    · exact widen14 x hx w
    · exact widen15 x hx w
  · have h1 : we k x = x := by unfold we; rw [if_neg (by omega), if_neg (by omega), if_neg (by omega), if_neg (by omega)]
    rw [h1]
    exact widen_out k x hk w
theorem rwiden_any (k : Int) (x : Nat) (hx : x < 4294967296) (w : World) : Calls Try.prog 16 #[.int .i64 k, .int .i64 x] w fun e w' => e = .returned (.int .i64 (we k x)) ∧ Below w.heap.size w w' := by
  by_cases hk : k < 1 ∨ 46 ≤ k
  · have h1 : we k x = x := by unfold we; rw [if_neg (by omega), if_neg (by omega), if_neg (by omega), if_neg (by omega)]
    rw [h1]
    exact rwiden_out k x hk w
  · have hk : k = 1 ∨ k = 2 ∨ k = 3 ∨ k = 4 ∨ k = 5 ∨ k = 6 ∨ k = 7 ∨ k = 8 ∨ k = 9 ∨ k = 10 ∨ k = 11 ∨ k = 12 ∨ k = 13 ∨ k = 14 ∨ k = 15 ∨ k = 16 ∨ k = 17 ∨ k = 18 ∨ k = 19 ∨ k = 20 ∨ k = 21 ∨ k = 22 ∨ k = 23 ∨ k = 24 ∨ k = 25 ∨ k = 26 ∨ k = 27 ∨ k = 28 ∨ k = 29 ∨ k = 30 ∨ k = 31 ∨ k = 32 ∨ k = 33 ∨ k = 34 ∨ k = 35 ∨ k = 36 ∨ k = 37 ∨ k = 38 ∨ k = 39 ∨ k = 40 ∨ k = 41 ∨ k = 42 ∨ k = 43 ∨ k = 44 ∨ k = 45 := by omega
    rcases hk with rfl | rfl | rfl | rfl | rfl | rfl | rfl | rfl | rfl | rfl | rfl | rfl | rfl | rfl | rfl | rfl | rfl | rfl | rfl | rfl | rfl | rfl | rfl | rfl | rfl | rfl | rfl | rfl | rfl | rfl | rfl | rfl | rfl | rfl | rfl | rfl | rfl | rfl | rfl | rfl | rfl | rfl | rfl | rfl | rfl
    · exact rwiden1 x hx w
    · exact rwiden2 x hx w
    · exact rwiden3 x hx w
    · exact rwiden4 x hx w
    · exact rwiden5 x hx w
    · exact rwiden6 x hx w
    · exact rwiden7 x hx w
    · exact rwiden8 x hx w
    · exact rwiden9 x hx w
    · exact rwiden10 x hx w
    · exact rwiden11 x hx w
    · exact rwiden12 x hx w
    · exact rwiden13 x hx w
    · exact rwiden14 x hx w
    · exact rwiden15 x hx w
    · exact rwiden16 x hx w
    · exact rwiden17 x hx w
    · exact rwiden18 x hx w
    · exact rwiden19 x hx w
    · exact rwiden20 x hx w
    · exact rwiden21 x hx w
    · exact rwiden22 x hx w
    · exact rwiden23 x hx w
    · exact rwiden24 x hx w
    · exact rwiden25 x hx w
    · exact rwiden26 x hx w
    · exact rwiden27 x hx w
    · exact rwiden28 x hx w
    · exact rwiden29 x hx w
    · exact rwiden30 x hx w
    · exact rwiden31 x hx w
    · exact rwiden32 x hx w
    · exact rwiden33 x hx w
    · exact rwiden34 x hx w
    · exact rwiden35 x hx w
    · exact rwiden36 x hx w
    · exact rwiden37 x hx w
    · exact rwiden38 x hx w
    · exact rwiden39 x hx w
    · exact rwiden40 x hx w
    · exact rwiden41 x hx w
    · exact rwiden42 x hx w
    · exact rwiden43 x hx w
    · exact rwiden44 x hx w
    · exact rwiden45 x hx w
theorem we_bd (k : Int) (x : Nat) (hx : x < 4294967296) : 0 ≤ we k x ∧ we k x < 4294967296 := by
  unfold we
  repeat' (refine ite_bd (fun _ => ?_) (fun _ => ?_))
  all_goals omega
set_option maxHeartbeats 1600000 in
theorem goes_walk (op : Int) (a b : Nat) (ha : a < 4294967296) (hb : b < 4294967296) (w : World) : Calls Try.prog 4 #[.int .i64 op, .int .u32 a, .int .u32 b] w fun e w' => e = .returned (.bool true) ∧ Below w.heap.size w w' := by
  have H1 := Lib.hid (fun w => goes_any op a b ha hb w)
  have H2 := Lib.hid (fun w => rgoes_any op a b ha hb w)
  have H3 := Lib.hid (fun w => width_any op w)
  have H4 := Lib.hid (fun w => rwidth_any op w)
  have H5 := Lib.hid (fun w => widen_any op a ha w)
  have H6 := Lib.hid (fun w => rwiden_any op a ha w)
  obtain ⟨b1, b2⟩ := we_bd op a ha
  generalize gB op a b = g at *
  generalize gIs op = i at *
  generalize wd op = d at *
  generalize we op a = v at *
  go_enter Try.func4, Try.ntmps4
  go_wp2_with fail
  refine (fit_ok w).mono ?_
  rintro e w1 ⟨rfl, rfl⟩
  go_wp2_with fail
  refine (H1.out _).mono ?_
  rintro e w1 ⟨rfl, rfl⟩
  go_wp2_with fail
  refine (H2.out _).mono ?_
  rintro e w2 ⟨rfl, hB2⟩
  go_wp2_with fail
  refine (H3.out _).mono ?_
  rintro e w3 ⟨rfl, rfl⟩
  go_wp2_with fail
  refine (H4.out _).mono ?_
  rintro e w4 ⟨rfl, hB4⟩
  go_wp2_with fail
  refine (H5.out _).mono ?_
  rintro e w3 ⟨rfl, rfl⟩
  go_wp2_with fail
  refine (H6.out _).mono ?_
  rintro e w5 ⟨rfl, hB5⟩
  go_wp2
  go_ret
  exact ⟨rfl, (hB2.trans (hB4.mono hB2.size)).trans (hB5.mono (Nat.le_trans hB2.size hB4.size))⟩
end Go.Proofs.L
