/- Proved here: lemmas and contracts (RunsAll) for the laws of this seat, for all values of the stated types; no further condition. -/
import Derived.Test.YtfalldoimbedbaaRunsWalk
import Derived.Test.YtfalldoimbedbaaOpen
import Derived.Deep.Slices
import Derived.Deep.Fields
import Derived.ChangeSame
open Go Go.RowKit Go.Lib Go.ChangeShapes Go.WideShapes Go.Deep
namespace Go.Proofs.L
theorem len3 {α : Type} {l : List α} (h : l.length = 3) : ∃ a b c, l = [a, b, c] := by
  rcases l with _ | ⟨a, _ | ⟨b, _ | ⟨c, _ | ⟨d, l⟩⟩⟩⟩
  · simp at h
  · simp at h
  · simp at h
  · exact ⟨a, b, c, rfl⟩
  · simp at h
/-- the calls of the law, opened -/
theorem open_calls {H : Type} {enc : TypeId × Value → H} {W : World} {base : Nat} {v : Value} {d : DataW H} {ps : List MemPlace}
    (hv : Value.okWide Try.prog W .any base 37 v) (h : DataW.Trod enc Try.prog W 0 (fun _ => true) true 37 v d ps) :
    ∃ p sb so len cap, v = .slice p len cap ∧ (0 < len → p = some ⟨sb, so, none⟩) ∧ ∀ k, k < len → ∃ (kd nn : Int) (x : Nat), nn < 9223372036854775808 ∧ x < 4294967296 ∧
      W.cell? ⟨sb, so + k * 3, none⟩ = some (.int .i64 kd) ∧ W.cell? ⟨sb, so + k * 3 + 1, none⟩ = some (.int .i64 nn) ∧ W.cell? ⟨sb, so + k * 3 + 2, none⟩ = some (.int .u32 (x : Int)) := by
  obtain ⟨p, len, cap, rfl⟩ := okWide_slice Try.underlying37 hv
  obtain ⟨fuel, hf⟩ := h
  rcases open_slice Try.underlying37 hf with ⟨hcs, hx⟩ | ⟨a, len', cap', m, n, D, Pl, hcs, hb, hl, hm, hmm, hx, hi⟩
  · simp only [Value.cells] at hcs
    injection hcs with hcs _
    injection hcs with e1 e2 e3
    subst e2
    exact ⟨p, 0, 0, 0, cap, rfl, fun h => by omega, fun k hk => by omega⟩
  · simp only [Value.cells] at hcs
    injection hcs with hcs _
    injection hcs with e1 e2 e3
    subst e1 e2 e3
    have hC : Try.prog.cellsOf 41 = 3 := by kernel_rfl
    rw [hC] at hi
    have key : ∀ k, k < len → ∃ (kd nn : Int) (x : Nat), nn < 9223372036854775808 ∧ x < 4294967296 ∧ W.cell? ((a.add (k * 3)).add 0) = some (.int .i64 kd) ∧ W.cell? ((a.add (k * 3)).add 1) = some (.int .i64 nn) ∧ W.cell? ((a.add (k * 3)).add 2) = some (.int .u32 (x : Int)) := by
      intro k hk
      obtain ⟨cs', hc, ht'⟩ := hi k (by rw [hmm]; simp; omega)
      obtain ⟨_, hcl, hat⟩ := World.cells?_some hc
      obtain ⟨ys, n', hn', hy, hlen, hyl, hfs⟩ := DataW.trod_struct Try.underlying41 ht'
      have h0 := hfs 0 _ rfl
      have h1 := hfs 1 _ rfl
      have h2 := hfs 2 _ rfl
      have c3 : Try.prog.cellsOf 3 = 1 := by kernel_rfl
      have c26 : Try.prog.cellsOf 26 = 1 := by kernel_rfl
      obtain ⟨x0, x1, x2, rfl⟩ : ∃ x0 x1 x2, cs' = [x0, x1, x2] := len3 hcl
      obtain ⟨y0, y1, y2, rfl⟩ : ∃ y0 y1 y2, ys = [y0, y1, y2] := len3 hyl
      simp [c3, c26] at h0
      obtain ⟨z0, hz0, -, -⟩ := DataW.trod_int Try.underlying3 h0
      obtain ⟨z1, hz1, -, w1⟩ := DataW.trod_int Try.underlying3 h1
      obtain ⟨z2, hz2, -, w2⟩ := DataW.trod_int Try.underlying26 h2
      have a0 := hat 0 (by decide)
      have a1 := hat 1 (by decide)
      have a2 := hat 2 (by decide)
      injection hz0 with hz0 _
      injection hz1 with hz1 _
      injection hz2 with hz2 _
      subst hz0 hz1 hz2
      have b2 := wf_u32 w2
      obtain ⟨x, rfl⟩ := Int.eq_ofNat_of_zero_le b2.1
      exact ⟨z0, z1, x, (wf_i64 w1).2, by omega, a0, a1, a2⟩
    by_cases h0 : 0 < len
    · obtain ⟨_, _, _, _, _, q, _, _⟩ := key 0 h0
      have hs := no_spot q
      obtain ⟨ab, ao, asp⟩ := a
      have : asp = none := by
        unfold Addr.add at hs
        cases asp with
        | none => rfl
        | some x => revert hs; simp
      subst this
      refine ⟨_, ab, ao, len, cap, rfl, fun _ => rfl, fun k hk => ?_⟩
      have := key k hk
      simpa only [addr_none, Nat.add_zero] using this
    · exact ⟨_, 0, 0, len, cap, rfl, fun h => absurd h h0, fun k hk => by omega⟩
theorem runs_all (sb so len cap0 : Nat) (p : Option Addr) (w : World) (hp : 0 < len → p = some ⟨sb, so, none⟩)
    (hcell : ∀ k, k < len → ∃ (kd nn : Int) (x : Nat), nn < 9223372036854775808 ∧ x < 4294967296 ∧ w.cell? ⟨sb, so + k * 3, none⟩ = some (.int .i64 kd) ∧ w.cell? ⟨sb, so + k * 3 + 1, none⟩ = some (.int .i64 nn) ∧ w.cell? ⟨sb, so + k * 3 + 2, none⟩ = some (.int .u32 (x : Int))) :
    Calls Try.prog 5 #[.slice p len cap0] w fun e w' => e = .returned (.bool true) ∧ Below w.heap.size w w' := by
  by_cases h : len ≤ 300
  · exact runs_walk sb so len cap0 p h w hp hcell
  · clear hp hcell
    have dl : decide ((len : Int) > 300) = true := by simp; omega
    have dl2 : decide (300 < (len : Int)) = true := by simp; omega
    go_enter Try.func5, Try.ntmps5
    go_wp2_with fail
    refine (fit_ok w).mono ?_
    rintro e w0 ⟨rfl, hB0⟩
    go_wp2
    go_ret
    exact ⟨rfl, hB0⟩
end Go.Proofs.L
