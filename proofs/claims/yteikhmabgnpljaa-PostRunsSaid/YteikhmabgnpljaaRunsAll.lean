/- Proved here: lemmas and contracts (RunsAll) for the laws of this seat, for all values of the stated types; no further condition. -/
import Derived.Test.YteikhmabgnpljaaRunsWalk
import Derived.Deep.Slices
import Derived.Deep.Fields
import Derived.ChangeSame
open Go Go.RowKit Go.Lib Go.ChangeShapes Go.WideShapes Go.Deep
namespace Go.Proofs.L
theorem len4 {α : Type} {l : List α} (h : l.length = 4) : ∃ a b c d, l = [a, b, c, d] := by
  rcases l with _ | ⟨a, _ | ⟨b, _ | ⟨c, _ | ⟨d, _ | ⟨e, l⟩⟩⟩⟩⟩
  · simp at h
  · simp at h
  · simp at h
  · simp at h
  · exact ⟨a, b, c, d, rfl⟩
  · simp at h
/-- the calls of the law, opened -/
theorem open_calls {H : Type} {enc : TypeId × Value → H} {W : World} {base : Nat} {v : Value} {d : DataW H} {ps : List MemPlace}
    (hv : Value.okWide Try.prog W .any base 35 v) (h : DataW.Trod enc Try.prog W 0 (fun _ => true) true 35 v d ps) :
    ∃ p sb so len cap, v = .slice p len cap ∧ (0 < len → p = some ⟨sb, so, none⟩) ∧ ∀ k, k < len → ∃ (kd bx fr : Int) (t : ByteArray),
      W.cell? ⟨sb, so + k * 4, none⟩ = some (.int .i64 kd) ∧ W.cell? ⟨sb, so + k * 4 + 1, none⟩ = some (.int .i64 bx) ∧ W.cell? ⟨sb, so + k * 4 + 2, none⟩ = some (.int .i64 fr) ∧ W.cell? ⟨sb, so + k * 4 + 3, none⟩ = some (.string t) := by
  obtain ⟨p, len, cap, rfl⟩ := okWide_slice Try.underlying35 hv
  obtain ⟨fuel, hf⟩ := h
  rcases open_slice Try.underlying35 hf with ⟨hcs, hx⟩ | ⟨a, len', cap', m, n, D, Pl, hcs, hb, hl, hm, hmm, hx, hi⟩
  · simp only [Value.cells] at hcs
    injection hcs with hcs _
    injection hcs with e1 e2 e3
    subst e2
    exact ⟨p, 0, 0, 0, cap, rfl, fun h => by omega, fun k hk => by omega⟩
  · simp only [Value.cells] at hcs
    injection hcs with hcs _
    injection hcs with e1 e2 e3
    subst e1 e2 e3
    have hC : Try.prog.cellsOf 41 = 4 := by kernel_rfl
    rw [hC] at hi
    have key : ∀ k, k < len → ∃ (kd bx fr : Int) (t : ByteArray), W.cell? ((a.add (k * 4)).add 0) = some (.int .i64 kd) ∧ W.cell? ((a.add (k * 4)).add 1) = some (.int .i64 bx) ∧ W.cell? ((a.add (k * 4)).add 2) = some (.int .i64 fr) ∧ W.cell? ((a.add (k * 4)).add 3) = some (.string t) := by
      intro k hk
      obtain ⟨cs', hc, ht'⟩ := hi k (by rw [hmm]; simp; omega)
      obtain ⟨_, hcl, hat⟩ := World.cells?_some hc
      obtain ⟨ys, n', hn', hy, hlen, hyl, hfs⟩ := DataW.trod_struct Try.underlying41 ht'
      have h0 := hfs 0 _ rfl
      have h1 := hfs 1 _ rfl
      have h2 := hfs 2 _ rfl
      have h3 := hfs 3 _ rfl
      have c3 : Try.prog.cellsOf 3 = 1 := by kernel_rfl
      have c9 : Try.prog.cellsOf 9 = 1 := by kernel_rfl
      obtain ⟨x0, x1, x2, x3, rfl⟩ : ∃ x0 x1 x2 x3, cs' = [x0, x1, x2, x3] := len4 hcl
      obtain ⟨y0, y1, y2, y3, rfl⟩ : ∃ y0 y1 y2 y3, ys = [y0, y1, y2, y3] := len4 hyl
      simp [c3, c9] at h0
      obtain ⟨z0, hz0, -, -⟩ := DataW.trod_int Try.underlying3 h0
      obtain ⟨z1, hz1, -, -⟩ := DataW.trod_int Try.underlying3 h1
      obtain ⟨z2, hz2, -, -⟩ := DataW.trod_int Try.underlying3 h2
      obtain ⟨t, ht, hyt, -⟩ := DataW.trod_string Try.underlying9 h3
      have a0 := hat 0 (by decide)
      have a1 := hat 1 (by decide)
      have a2 := hat 2 (by decide)
      have a3 := hat 3 (by decide)
      injection hz0 with hz0 _
      injection hz1 with hz1 _
      injection hz2 with hz2 _
      injection ht with ht _
      subst hz0 hz1 hz2 ht
      exact ⟨z0, z1, z2, t, a0, a1, a2, a3⟩
    by_cases h0 : 0 < len
    · obtain ⟨_, _, _, _, q, _, _⟩ := key 0 h0
      have hs := spot_none q
      obtain ⟨ab, ao, asp⟩ := a
      have : asp = none := by
        unfold Addr.add at hs
        cases asp with
        | none => rfl
        | some x => revert hs; simp
      subst this
      refine ⟨_, ab, ao, len, cap, rfl, fun _ => rfl, fun k hk => ?_⟩
      have := key k hk
      simpa only [add_none, Nat.add_zero] using this
    · exact ⟨_, 0, 0, len, cap, rfl, fun h => absurd h h0, fun k hk => by omega⟩
set_option maxRecDepth 100000 in
set_option maxHeartbeats 1600000 in
theorem runs_long (n : Int) (p : Option Addr) (len cap : Nat) (hlen : 300 < len) (w : World) : Calls Try.prog 4 #[.int .i64 n, .slice p len cap] w fun e w' => e = .returned (.bool true) ∧ Below w.heap.size w w' := by
  have dl : decide ((len : Int) > 300) = true := by simp; omega
  have dl2 : decide (300 < (len : Int)) = true := by simp; omega
  go_enter Try.func4, Try.ntmps4
  go_wp2_with fail
  refine (fit_ok w).mono ?_
  rintro e w0 ⟨rfl, hB0⟩
  go_wp2
  go_ret
  exact ⟨rfl, hB0⟩
set_option maxRecDepth 100000 in
set_option maxHeartbeats 1600000 in
theorem runs_bad (n : Int) (hn : n < 1 ∨ 4 < n) (p : Option Addr) (len cap : Nat) (hlen : len ≤ 300) (w : World) : Calls Try.prog 4 #[.int .i64 n, .slice p len cap] w fun e w' => e = .returned (.bool true) ∧ Below w.heap.size w w' := by
  have dl : decide ((len : Int) > 300) = false := by simp; omega
  have dl2 : decide (300 < (len : Int)) = false := by simp; omega
  have HN := Lib.hid (new_bad n hn)
  by_cases h1 : n < 1
  · have d1 : decide (n < 1) = true := by simpa using h1
    clear hn h1
    go_enter Try.func4, Try.ntmps4
    go_wp2_with fail
    refine (fit_ok w).mono ?_
    rintro e w0 ⟨rfl, hB0⟩
    go_wp2_with fail
    refine (HN.out _).mono ?_
    rintro e w1 ⟨rfl, rfl⟩
    go_wp2
    go_ret
    exact ⟨rfl, hB0⟩
  · have d1 : decide (n < 1) = false := by simpa using h1
    have d2 : decide (n > 4) = true := by simp; omega
    have d3 : decide (4 < n) = true := by simp; omega
    clear hn h1
    go_enter Try.func4, Try.ntmps4
    go_wp2_with fail
    refine (fit_ok w).mono ?_
    rintro e w0 ⟨rfl, hB0⟩
    go_wp2_with fail
    refine (HN.out _).mono ?_
    rintro e w1 ⟨rfl, rfl⟩
    go_wp2
    go_ret
    exact ⟨rfl, hB0⟩
theorem runs_all (n : Int) (sb so len cap : Nat) (p : Option Addr) (w : World) (hp : 0 < len → p = some ⟨sb, so, none⟩)
    (hcell : ∀ k, k < len → ∃ (kd bx fr : Int) (t : ByteArray), w.cell? ⟨sb, so + k * 4, none⟩ = some (.int .i64 kd) ∧ w.cell? ⟨sb, so + k * 4 + 1, none⟩ = some (.int .i64 bx) ∧ w.cell? ⟨sb, so + k * 4 + 2, none⟩ = some (.int .i64 fr) ∧ w.cell? ⟨sb, so + k * 4 + 3, none⟩ = some (.string t)) :
    Calls Try.prog 4 #[.int .i64 n, .slice p len cap] w fun e w' => e = .returned (.bool true) ∧ Below w.heap.size w w' := by
  by_cases hl : 300 < len
  · exact runs_long n p len cap hl w
  · by_cases hn : n < 1 ∨ 4 < n
    · exact runs_bad n hn p len cap (by omega) w
    · obtain ⟨m, rfl⟩ := Int.eq_ofNat_of_zero_le (show 0 ≤ n by omega)
      exact runs_walk m (by omega) (by omega) sb so len cap p (by omega) w hp hcell
end Go.Proofs.L
