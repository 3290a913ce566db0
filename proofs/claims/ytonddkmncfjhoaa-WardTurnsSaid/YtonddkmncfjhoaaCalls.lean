/- Proved here: lemmas and contracts (Calls) for the laws of this seat, for all values of the stated types; no further condition. -/
import Derived.Test.YtonddkmncfjhoaaPlay
import Derived.Test.YtonddkmncfjhoaaFlat
open Go Go.RowKit Go.Lib Go.ChangeShapes Go.WideShapes
namespace Go.Proofs.L
theorem flat35 : flat Try.prog 10 35 = some [3, 31, 31, 31, 33, 3] := by kernel_rfl
theorem flat40 : flat Try.prog 10 40 = some ([3, 31, 31] ++ List.replicate 32 31) := by kernel_rfl
theorem cells35 : Try.prog.cellsOf 35 = 6 := by kernel_rfl
theorem cells40 : Try.prog.cellsOf 40 = 35 := by kernel_rfl
/-- a call of the law, at its cells -/
structure CallAt (W : World) (b o : Nat) (kd : Int) (x0 x1 pc : Nat) (p : Option Addr) (tb td len c : Nat) (L : Nat → Sta) (T : Int) : Prop where
  c0 : W.cell? ⟨b, o, none⟩ = some (.int .i64 kd)
  c1 : W.cell? ⟨b, o + 1, none⟩ = some (.int .u32 (x0 : Int))
  c2 : W.cell? ⟨b, o + 2, none⟩ = some (.int .u32 (x1 : Int))
  c3 : W.cell? ⟨b, o + 3, none⟩ = some (.int .u32 (pc : Int))
  c4 : W.cell? ⟨b, o + 4, none⟩ = some (.slice p len c)
  c5 : W.cell? ⟨b, o + 5, none⟩ = some (.int .i64 T)
  x : x0 < 4294967296
  t : -9223372036854775808 ≤ T ∧ T ≤ 9223372036854775807
  p : 0 < len → p = some ⟨tb, td, none⟩
  l : Lies W tb td len L
def CallsAt (W : World) (b o m : Nat) : Prop := ∀ k, k < m → ∃ kd x0 x1 pc p tb td len c L T, CallAt W b (o + k * 6) kd x0 x1 pc p tb td len c L T
theorem choose_sta {W : World} {b o len : Nat} (h : ∀ j, j < len → ∃ S : Sta, ∀ (i : Nat) (u : Value), (stL S)[i]? = some u → W.cell? ⟨b, o + j * 35 + i, none⟩ = some u) : ∃ L : Nat → Sta, Lies W b o len L := by
  have : ∀ j, ∃ S : Sta, j < len → ∀ (i : Nat) (u : Value), (stL S)[i]? = some u → W.cell? ⟨b, o + j * 35 + i, none⟩ = some u := fun j => by
    by_cases hj : j < len
    · obtain ⟨S, hS⟩ := h j hj
      exact ⟨S, fun _ => hS⟩
    · exact ⟨noSta, fun h => absurd h hj⟩
  exact ⟨fun j => (this j).choose, fun j hj => (this j).choose_spec hj⟩
theorem open_calls {H : Type} {enc : TypeId × Value → H} {W : World} {base : Nat} {v : Value} {d : DataW H} {ps : List MemPlace}
    (hv : Value.okWide Try.prog W .any base 23 v) (h : DataW.Trod enc Try.prog W 0 (fun _ => true) true 23 v d ps) :
    ∃ (p : Option Addr) (b o m c : Nat), v = .slice p m c ∧ (0 < m → p = some ⟨b, o, none⟩) ∧ CallsAt W b o m := by
  obtain ⟨p, b, o, m, c, rfl, hp, hc⟩ := open_cellsW Try.underlying23 flat35 cells35 (by decide) hv h
  refine ⟨p, b, o, m, c, rfl, hp, fun k hk => ?_⟩
  obtain ⟨_, _, u0, h0, t0⟩ := hc k hk 0 3 rfl
  obtain ⟨_, _, u1, h1, t1⟩ := hc k hk 1 31 rfl
  obtain ⟨_, _, u2, h2, t2⟩ := hc k hk 2 31 rfl
  obtain ⟨_, _, u3, h3, t3⟩ := hc k hk 3 31 rfl
  obtain ⟨_, _, u4, h4, t4⟩ := hc k hk 4 33 rfl
  obtain ⟨_, _, u5, h5, t5⟩ := hc k hk 5 3 rfl
  obtain ⟨kd, rfl, -⟩ := leaf_i64 Try.underlying3 t0
  obtain ⟨x0, rfl, hx0⟩ := leaf_u32 Try.underlying31 t1
  obtain ⟨x1, rfl, -⟩ := leaf_u32 Try.underlying31 t2
  obtain ⟨pc, rfl, -⟩ := leaf_u32 Try.underlying31 t3
  obtain ⟨T, rfl, hT⟩ := leaf_i64 Try.underlying3 t5
  obtain ⟨q, tb, td, len, cc, rfl, hq, hl⟩ := open_cells Try.underlying33 flat40 cells40 (by decide) t4
  obtain ⟨L, hL⟩ : ∃ L : Nat → Sta, Lies W tb td len L := by
    refine choose_sta fun j hj => ?_
    have hj' := hl j hj
    obtain ⟨_, _, s0, g0, r0⟩ := hj' 0 3 rfl
    obtain ⟨_, _, s1, g1, r1⟩ := hj' 1 31 rfl
    obtain ⟨_, _, s2, g2, r2⟩ := hj' 2 31 rfl
    obtain ⟨s, rfl, -⟩ := leaf_i64 Try.underlying3 r0
    obtain ⟨c1, rfl, -⟩ := leaf_u32 Try.underlying31 r1
    obtain ⟨p1, rfl, -⟩ := leaf_u32 Try.underlying31 r2
    have hx : ∀ i, ∃ n : Nat, i < 32 → W.cell? ⟨tb, td + j * 35 + (i + 3), none⟩ = some (.int .u32 (n : Int)) := fun i => by
      by_cases hi : i < 32
      · obtain ⟨_, _, s3, g3, r3⟩ := hj' (i + 3) 31 (by rw [List.getElem?_append_right (by simp), List.getElem?_replicate, if_pos (by simp; omega)])
        obtain ⟨n, rfl, -⟩ := leaf_u32 Try.underlying31 r3
        exact ⟨n, fun _ => g3⟩
      · exact ⟨0, fun h => absurd h hi⟩
    refine ⟨⟨s, c1, p1, fun i => (hx i).choose⟩, fun i u hu => ?_⟩
    have hi : i < 35 := by have := (List.getElem?_eq_some_iff.1 hu).1; rwa [stL_len] at this
    rcases i with _ | _ | _ | i
    · rw [stL_0] at hu; injection hu with hu; rw [← hu]; exact g0
    · rw [stL_1] at hu; injection hu with hu; rw [← hu]; exact g1
    · rw [stL_2] at hu; injection hu with hu; rw [← hu]; exact g2
    · have h3 := stL_x ⟨s, c1, p1, fun i => (hx i).choose⟩ i (by omega)
      rw [show 3 + i = i + 1 + 1 + 1 by omega] at h3
      rw [h3] at hu; injection hu with hu; rw [← hu]
      exact (hx i).choose_spec (by omega)
  exact ⟨kd, x0, x1, pc, q, tb, td, len, cc, L, T, h0, h1, h2, h3, h4, h5, hx0, ⟨hT.1, by omega⟩, hq, hL⟩
theorem Lies.below {w w' sb so len L N} (h : Lies w sb so len L) (hb : Below N w w') (hN : 0 < len → sb < N) : Lies w' sb so len L := fun i hi j u hu => by
  have h1 := h i hi j u hu
  rw [World.cell?_of_block (w := w) (hb.block sb (hN (by omega)))]; exact h1
theorem CallAt.below {W w : World} {b o kd x0 x1 pc p tb td len c L T} (h : CallAt W b o kd x0 x1 pc p tb td len c L T) (hb : Below W.heap.size W w) : CallAt w b o kd x0 x1 pc p tb td len c L T := by
  have hlt : b < W.heap.size := by have := World.block_lt_of_cell? W _ h.c0; simpa using this
  have e : ∀ i, w.cell? ⟨b, i, none⟩ = W.cell? ⟨b, i, none⟩ := fun i => World.cell?_of_block (hb.block b hlt)
  exact ⟨by rw [e]; exact h.c0, by rw [e]; exact h.c1, by rw [e]; exact h.c2, by rw [e]; exact h.c3, by rw [e]; exact h.c4, by rw [e]; exact h.c5, h.x, h.t, h.p, h.l.below hb fun h0 => h.l.lt h0⟩
/-- a status asked of both -/
theorem sim_status {N w bp br n f t g o cap rl gl vr vg} (h : Sim N w bp br n f t g o cap rl gl vr vg) (h0 : 0 < n) (h4 : n ≤ 4) (i : Int) : ∃ S : Sta,
    Calls Try.prog 13 #[.pointer (some ⟨bp, 0, none⟩), .int .i64 i] w (fun e w1 => e = .returned (.agg (stL S).toArray) ∧ Chg [] w w1) ∧
    ∀ w1, Chg [] w w1 → Calls Try.prog 14 #[.pointer (some ⟨br, 0, none⟩), .int .i64 i] w1 fun e w2 => e = .returned (.agg (stL S).toArray) ∧ Chg [] w1 w2 := by
  have hlen := h.rel.len
  by_cases hi : 0 ≤ i ∧ i < n
  · obtain ⟨k, rfl⟩ : ∃ k : Nat, i = k := ⟨i.toNat, by omega⟩
    refine ⟨f k, status_in h.p k (by omega), fun w1 hc => rstatus_any (h.keep hc (by simp)).r (by omega) (by omega) _ _ (.inl ⟨k, rfl, ?_, rfl⟩)⟩
    by_cases hz : (f k).s = 0
    · exact .inl ((h.rel.mem h0 k).2 ⟨by omega, hz⟩)
    · exact .inr ((h.rel.gone k).2 ⟨by omega, hz⟩)
  · refine ⟨noSta, status_out h.p i hi, fun w1 hc => rstatus_any (h.keep hc (by simp)).r (by omega) (by omega) _ _ (.inr ⟨fun m hm => ?_, rfl⟩)⟩
    rintro rfl
    rcases hm with hm | hm
    · exact hi ⟨by omega, by have := ((h.rel.mem h0 m).1 hm).1; omega⟩
    · exact hi ⟨by omega, by have := ((h.rel.gone m).1 hm).1; omega⟩
/-- the turn asked of both -/
theorem sim_turn {N w bp br n f t g o cap rl gl vr vg} (h : Sim N w bp br n f t g o cap rl gl vr vg) (h5 : n < 5) : (t = -1 ∨ ∃ τ : Nat, t = τ ∧ τ < n) ∧
    Calls Try.prog 10 #[.pointer (some ⟨bp, 0, none⟩)] w (fun e w1 => e = .returned (.int .i64 t) ∧ w1 = w) ∧
    Calls Try.prog 11 #[.pointer (some ⟨br, 0, none⟩)] w fun e w1 => e = .returned (.int .i64 t) ∧ w1 = w := by
  by_cases ht : t < 0
  · obtain ⟨rfl, rfl⟩ := h.rel.neg ht
    refine ⟨.inl rfl, ?_, rturn_none h.r⟩
    have := turn_in h.p
    rwa [if_pos (by omega)] at this
  · obtain ⟨τ, rfl⟩ := h.rel.pos ht
    obtain ⟨h1, h2, rest, rfl, h3, h4⟩ := h.rel.cons h5
    refine ⟨.inr ⟨τ, rfl, h1⟩, ?_, rturn_some h.r⟩
    have := turn_in h.p
    rwa [if_neg (by omega)] at this
end Go.Proofs.L
