/- Proved here: lemmas and contracts (Play) for the laws of this seat, for all values of the stated types; no further condition. -/
import Derived.Test.YtonddkmncfjhoaaBoth
open Go Go.RowKit Go.Lib
namespace Go.Proofs.L
theorem chg_below' {N : Nat} {w a b : World} {E : List Nat} (h : Below N w a) (hc : Chg E a b) (hE : ∀ k ∈ E, N ≤ k) (hN : N ≤ a.heap.size) : Below N w b := h.trans (hc.below hE hN)
/-- the program's ward and the document's, side by side -/
structure Sim (N : Nat) (w : World) (bp br n : Nat) (f : Nat → Sta) (t : Int) (g o cap : Nat) (rl gl : List Nat) (vr vg : Value) : Prop where
  p : Wd w bp n f t g o cap
  r : Rw w br rl gl f vr vg
  rel : Rel n f t rl gl
  np : N ≤ bp
  nr : N ≤ br
  ng : N ≤ g
  nvr : ∀ x, vr.ownBlock = some x → N ≤ x
  nvg : ∀ x, vg.ownBlock = some x → N ≤ x
  pr : bp ≠ br
  gr : g ≠ br
  vrp : ∀ x, vr.ownBlock = some x → x ≠ bp ∧ x ≠ g
  vgp : ∀ x, vg.ownBlock = some x → x ≠ bp ∧ x ≠ g
def SimE (N : Nat) (w : World) (bp br n : Nat) : Prop := ∃ f t g o cap rl gl vr vg, Sim N w bp br n f t g o cap rl gl vr vg
theorem Sim.keep {N w w' bp br n f t g o cap rl gl vr vg E} (h : Sim N w bp br n f t g o cap rl gl vr vg) (hc : Chg E w w') (hE : ∀ k ∈ E, w.heap.size ≤ k) : Sim N w' bp br n f t g o cap rl gl vr vg := by
  have ne : ∀ x, x < w.heap.size → x ∉ E := fun x hx hm => by have := hE x hm; omega
  exact ⟨h.p.keep hc (ne _ h.p.lt) (ne _ h.p.ltg), h.r.keep hc (ne _ h.r.lt) (fun x hx => ne _ (h.r.r.lt x hx)) (fun x hx => ne _ (h.r.g.lt x hx)), h.rel, h.np, h.nr, h.ng, h.nvr, h.nvg, h.pr, h.gr, h.vrp, h.vgp⟩
/-- a Keep of both -/
theorem sim_keep {N w bp br n f t g o cap rl gl vr vg} (h : Sim N w bp br n f t g o cap rl gl vr vg) (h5 : n < 5) (X : Nat → Nat) (pc : Nat) :
    Calls Try.prog 16 #[.pointer (some ⟨bp, 0, none⟩), .agg (xL X).toArray, .int .u32 (pc : Int)] w fun e w1 => e = .returned (.tuple #[]) ∧ Chg [bp, g] w w1 ∧
      Calls Try.prog 19 #[.pointer (some ⟨br, 0, none⟩), .agg (xL X).toArray, .int .u32 (pc : Int)] w1 fun e w2 => e = .returned (.tuple #[]) ∧ Chg (bp :: g :: vr.ownBlock.toList) w w2 ∧ SimE N w2 bp br n := by
  by_cases ht : t < 0
  · obtain ⟨rfl, rfl⟩ := h.rel.neg ht
    refine (keep_off h.p ht _ _).mono ?_
    rintro e w1 ⟨rfl, hc1⟩
    refine ⟨rfl, chgE hc1 (by simp), ?_⟩
    have h1 := h.keep hc1 (by simp)
    refine (rkeep_none h1.r _ _).mono ?_
    rintro e w2 ⟨rfl, hc2⟩
    exact ⟨rfl, chgE (hc1.trans hc2) (by simp), _, _, _, _, _, _, _, _, _, h1.keep hc2 (by simp)⟩
  · obtain ⟨τ, rfl⟩ := h.rel.pos ht
    obtain ⟨h1, h2, rest, rfl, h3, h4⟩ := h.rel.cons h5
    refine (keep_in τ h.p h1 X pc).mono ?_
    rintro e w1 ⟨rfl, hp, hc1⟩
    refine ⟨rfl, hc1, ?_⟩
    have hr1 := h.r.keep hc1 (by simp; exact ⟨fun e => h.pr e.symm, fun e => h.gr e.symm⟩) (fun x hx => by have := h.vrp x hx; simp; omega) (fun x hx => by have := h.vgp x hx; simp; omega)
    refine (rkeep_some hr1 h3 h4 X pc).mono ?_
    rintro e w2 ⟨rfl, hr2, hc2⟩
    refine ⟨rfl, (chgE hc1 (by simp)).trans (chgE hc2 (by intro x hx; simp at hx ⊢; simp [hx])), _, _, g, o, cap, _, _, vr, vg, hp.keep hc2 (fun hm => (h.vrp bp (by simpa using hm)).1 rfl) (fun hm => (h.vrp g (by simpa using hm)).2 rfl), hr2, h.rel.kept fun i => ?_, h.np, h.nr, h.ng, h.nvr, h.nvg, h.pr, h.gr, h.vrp, h.vgp⟩
    unfold ups; split
    · subst_vars; rfl
    · rfl
theorem sim_pass {N w bp br n f t g o cap rl gl vr vg} (h : Sim N w bp br n f t g o cap rl gl vr vg) (h5 : n < 5) :
    Calls Try.prog 15 #[.pointer (some ⟨bp, 0, none⟩)] w fun e w1 => e = .returned (.tuple #[]) ∧ Chg [bp] w w1 ∧
      Calls Try.prog 20 #[.pointer (some ⟨br, 0, none⟩)] w1 fun e w2 => e = .returned (.tuple #[]) ∧ Chg [bp, br] w w2 ∧ SimE N w2 bp br n := by
  by_cases ht : t < 0
  · obtain ⟨rfl, rfl⟩ := h.rel.neg ht
    refine (pass_off h.p ht).mono ?_
    rintro e w1 ⟨rfl, rfl⟩
    refine ⟨rfl, Chg.refl _ _, ?_⟩
    refine (rpass_none h.r).mono ?_
    rintro e w2 ⟨rfl, rfl⟩
    exact ⟨rfl, Chg.refl _ _, _, _, _, _, _, _, _, _, _, h⟩
  · obtain ⟨τ, rfl⟩ := h.rel.pos ht
    obtain ⟨h1, h2, rest, rfl, h3, h4⟩ := h.rel.cons h5
    refine (pass_in τ h.p h1 (by omega)).mono ?_
    rintro e w1 ⟨rfl, t', hN, hp, hc1⟩
    refine ⟨rfl, hc1, ?_⟩
    have hr1 := h.r.keep hc1 (by simp; exact fun e => h.pr e.symm) (fun x hx => by have := h.vrp x hx; simp; omega) (fun x hx => by have := h.vgp x hx; simp; omega)
    have hlen := h.rel.len
    refine (rpass_some hr1 (by simp at hlen; omega)).mono ?_
    rintro e w2 ⟨rfl, vr', hr2, ho, hc2⟩
    have hlt := h.p.lt
    have hlg := h.p.ltg
    have hs1 := hc1.size
    refine ⟨rfl, (chgE hc1 (by simp)).trans (chgE hc2 (by simp)), f, t', g, o, cap, _, _, vr', vg, hp.keep hc2 (by simpa using h.pr) (by simpa using h.gr), hr2, h.rel.pass h5 hN, h.np, h.nr, h.ng, fun x hx => ?_, h.nvg, h.pr, h.gr, fun x hx => ?_, h.vgp⟩
    · have := ho x hx; have := h.np; omega
    · have := ho x hx; omega
theorem sim_end {N w bp br n f t g o cap rl gl vr vg} (h : Sim N w bp br n f t g o cap rl gl vr vg) (h5 : n < 5) (s : Int) (hs : s ≠ 0) (c : Nat) :
    Calls Try.prog 17 #[.pointer (some ⟨bp, 0, none⟩), .int .i64 s, .int .u32 (c : Int)] w fun e w1 => e = .returned (.tuple #[]) ∧ Chg [bp, g] w w1 ∧
      Calls Try.prog 21 #[.pointer (some ⟨br, 0, none⟩), .int .i64 s, .int .u32 (c : Int)] w1 fun e w2 => e = .returned (.tuple #[]) ∧ Chg (bp :: g :: br :: vg.ownBlock.toList) w w2 ∧ SimE N w2 bp br n := by
  by_cases ht : t < 0
  · obtain ⟨rfl, rfl⟩ := h.rel.neg ht
    refine (end_off h.p ht _ _).mono ?_
    rintro e w1 ⟨rfl, rfl⟩
    refine ⟨rfl, Chg.refl _ _, ?_⟩
    refine (rend_none h.r _ _).mono ?_
    rintro e w2 ⟨rfl, rfl⟩
    exact ⟨rfl, Chg.refl _ _, _, _, _, _, _, _, _, _, _, h⟩
  · obtain ⟨τ, rfl⟩ := h.rel.pos ht
    obtain ⟨h1, h2, rest, rfl, h3, h4⟩ := h.rel.cons h5
    refine (end_in τ h.p h1 (by omega) s c).mono ?_
    rintro e w1 ⟨rfl, t', hN, hp, hc1⟩
    refine ⟨rfl, hc1, ?_⟩
    have hr1 := h.r.keep hc1 (by simp; exact ⟨fun e => h.pr e.symm, fun e => h.gr e.symm⟩) (fun x hx => by have := h.vrp x hx; simp; omega) (fun x hx => by have := h.vgp x hx; simp; omega)
    have hlen := h.rel.len
    refine (rend_some hr1 h3 h4 (by simp at hlen; omega) (by simp at hlen; omega) s c).mono ?_
    rintro e w2 ⟨rfl, ⟨vr', vg', hr2, hor, hog⟩, hc2⟩
    have hlt := h.p.lt
    have hlg := h.p.ltg
    have hs1 := hc1.size
    have hnp := h.np
    refine ⟨rfl, (chgE hc1 (by simp)).trans (chgE hc2 (by intro x hx; simp at hx ⊢; rcases hx with hx | hx <;> simp [hx])), _, t', g, o, cap, _, _, vr', vg', hp.keep hc2 (fun hm => ?_) (fun hm => ?_), hr2, h.rel.ended h5 _ hs hN, h.np, h.nr, h.ng, fun x hx => ?_, fun x hx => ?_, h.pr, h.gr, fun x hx => ?_, fun x hx => ?_⟩
    · rcases List.mem_cons.1 hm with e | hm
      · exact h.pr e
      · exact (h.vgp bp (by simpa using hm)).1 rfl
    · rcases List.mem_cons.1 hm with e | hm
      · exact h.gr e
      · exact (h.vgp g (by simpa using hm)).2 rfl
    · have := hor x hx; omega
    · rcases hog with e | e
      · exact h.nvg x (by rw [← e]; exact hx)
      · have := e x hx; omega
    · have := hor x hx; omega
    · rcases hog with e | e
      · exact h.vgp x (by rw [← e]; exact hx)
      · have := e x hx; omega
theorem sim_set {N w bp br n f t g o cap rl gl vr vg} (h : Sim N w bp br n f t g o cap rl gl vr vg) (h5 : n < 5) (h0 : 0 < n) (p : Option Addr) (sb so len c : Nat) (L : Nat → Sta) (T : Int) (hT : -9223372036854775808 ≤ T ∧ T ≤ 9223372036854775807) (hp : 0 < len → p = some ⟨sb, so, none⟩) (hL : Lies w sb so len L) (hsb : 0 < len → sb < N) :
    Calls Try.prog 18 #[.pointer (some ⟨bp, 0, none⟩), .slice p len c, .int .i64 T] w fun e w1 => ∃ r : Int, e = .returned (.int .i64 r) ∧ Chg [bp] w w1 ∧
      Calls Try.prog 22 #[.pointer (some ⟨br, 0, none⟩), .slice p len c, .int .i64 T] w1 fun e w2 => e = .returned (.int .i64 r) ∧ Chg [bp, br] w w2 ∧ SimE N w2 bp br n := by
  have hlen := h.rel.len
  by_cases hl : len = n
  · subst hl
    obtain rfl := hp h0
    have hsb := hsb h0
    have hsp : sb ∉ [bp] := by have := h.np; simp; omega
    have hnp := h.np
    have hlt := h.p.lt
    have hlg := h.p.ltg
    have hnr := h.nr
    by_cases hr : -1 ≤ T ∧ T < len
    · refine (set_in h.p sb so c L hL T hr.1 hr.2 h0 (by omega)).mono ?_
      rintro e w1 (⟨hok, rfl, g', o', c', hp1, hg1, hc1⟩ | ⟨hno, rfl, hc1⟩)
      · refine ⟨0, rfl, hc1, ?_⟩
        have hr1 := h.r.keep hc1 (by simp; exact fun e => h.pr e.symm) (fun x hx => by have := h.vrp x hx; simp; omega) (fun x hx => by have := h.vgp x hx; simp; omega)
        refine (rset_in hr1 len hlen.symm h0 (by omega) sb so c L (hL.keep hc1 hsp) T hT).mono ?_
        rintro e w2 (⟨ha, hh, rfl, vr', vg', hr2, ho1, ho2, hc2⟩ | ⟨hno, rfl, hc2⟩)
        · have hg1l := hp1.ltg
          refine ⟨rfl, (chgE hc1 (by simp)).trans (chgE hc2 (by simp)), L, T, g', o', c', _, _, vr', vg', hp1.keep hc2 (by simpa using h.pr) (by have := h.r.lt; simp; omega), hr2, Rel.set h0 hr.1 hr.2 hh, h.np, h.nr, by omega, fun x hx => by have := ho1 x hx; have := hc1.size; omega, fun x hx => by have := ho2 x hx; have := hc1.size; omega, h.pr, by have := h.r.lt; omega, fun x hx => by have := ho1 x hx; have := hc1.size; omega, fun x hx => by have := ho2 x hx; have := hc1.size; omega⟩
        · exact absurd ((setOk_head h0 h5 hr.1 hr.2).1 hok) hno
      · refine ⟨3, rfl, chgE hc1 (by simp), ?_⟩
        have h1 := h.keep hc1 (by simp)
        refine (rset_in h1.r len hlen.symm h0 (by omega) sb so c L (hL.keep hc1 (by simp)) T hT).mono ?_
        rintro e w2 (⟨ha, hh, -⟩ | ⟨-, rfl, hc2⟩)
        · exact absurd ((setOk_head h0 h5 hr.1 hr.2).2 ⟨ha, hh⟩) hno
        · exact ⟨rfl, chgE (hc1.trans hc2) (by simp), _, _, _, _, _, _, _, _, _, h1.keep hc2 (by simp)⟩
    · refine (set_len h.p _ len c T (.inr (by omega))).mono ?_
      rintro e w1 ⟨rfl, rfl⟩
      refine ⟨3, rfl, Chg.refl _ _, ?_⟩
      refine (rset_in h.r len hlen.symm h0 (by omega) sb so c L hL T hT).mono ?_
      rintro e w2 (⟨ha, hh, -⟩ | ⟨-, rfl, hc2⟩)
      · exact absurd hh (head_far h0 (by omega))
      · exact ⟨rfl, chgE hc2 (by simp), _, _, _, _, _, _, _, _, _, h.keep hc2 (by simp)⟩
  · refine (set_len h.p p len c T (.inl hl)).mono ?_
    rintro e w1 ⟨rfl, rfl⟩
    refine ⟨3, rfl, Chg.refl _ _, ?_⟩
    refine (rset_len h.r (by omega) (by omega) p len c T (by omega)).mono ?_
    rintro e w2 ⟨rfl, hc2⟩
    exact ⟨rfl, chgE hc2 (by simp), _, _, _, _, _, _, _, _, _, h.keep hc2 (by simp)⟩
theorem u32w (x : Int) : IntKind.u32.wrap x = x % 4294967296 := by simp [IntKind.wrap, IntKind.bits, IntKind.signed]
theorem u32b (a : Nat) (h : a < 4294967296) : (BitVec.ofInt 32 (a : Int)).toNat = a := by
  rw [BitVec.ofInt_natCast, BitVec.toNat_ofNat]; exact Nat.mod_eq_of_lt h
theorem and32 (a b : Nat) (ha : a < 4294967296) (hb : b < 4294967296) : bits .and .u32 (a : Int) (b : Int) = ((a &&& b : Nat) : Int) := by
  show IntKind.u32.wrap ((BitVec.ofInt 32 (a : Int) &&& BitVec.ofInt 32 (b : Int)).toNat : Int) = _
  rw [BitVec.toNat_and, u32b a ha, u32b b hb, u32w]
  have := Nat.lt_of_le_of_lt (Nat.and_le_left (n := a) (m := b)) ha
  omega
theorem and1 (b : Nat) (hb : b < 4294967296) : bits .and .u32 (b : Int) 1 = ((b % 2 : Nat) : Int) := by
  rw [show (1 : Int) = ((1 : Nat) : Int) from rfl, and32 _ _ hb (by omega)]
  rw [Nat.and_one_is_mod]
def xOf (a b : Nat) : Nat → Nat := fun i => if i = 0 then a else if i = 5 then b else if i = 31 then a else 0
set_option maxHeartbeats 1600000 in
theorem play_in {N w bp br n f t g o cap rl gl vr vg} (h : Sim N w bp br n f t g o cap rl gl vr vg) (h5 : n < 5) (h0 : 0 < n) (hN : N ≤ w.heap.size) (kd : Int) (x0 x1 pc : Nat) (hx0 : x0 < 4294967296) (p : Option Addr) (sb so len c : Nat) (L : Nat → Sta) (T : Int) (hT : -9223372036854775808 ≤ T ∧ T ≤ 9223372036854775807) (hp : 0 < len → p = some ⟨sb, so, none⟩) (hL : Lies w sb so len L) (hsb : 0 < len → sb < N) :
    Calls Try.prog 9 #[.pointer (some ⟨bp, 0, none⟩), .pointer (some ⟨br, 0, none⟩), .agg #[.int .i64 kd, .int .u32 (x0 : Int), .int .u32 (x1 : Int), .int .u32 (pc : Int), .slice p len c, .int .i64 T]] w fun e w' => e = .returned (.bool true) ∧ SimE N w' bp br n ∧ Below N w w' := by
  obtain ⟨V, hV⟩ : ∃ V, V = w.alloc (.cells #[.int .i64 kd, .int .u32 (x0 : Int), .int .u32 (x1 : Int), .int .u32 (pc : Int), .slice p len c, .int .i64 T] 35) := ⟨_, rfl⟩
  obtain ⟨C, hC⟩ : ∃ C, C = w.heap.size := ⟨_, rfl⟩
  have rC : V.row? C = some #[.int .i64 kd, .int .u32 (x0 : Int), .int .u32 (x1 : Int), .int .u32 (pc : Int), .slice p len c, .int .i64 T] := by rw [hV]; exact row_alloc_at _ _ _ _ hC
  have hcV : Chg [] w V := by rw [hV]; exact (Chg.refl _ _).alloc _
  have hS := h.keep hcV (by simp)
  have hLV := hL.keep hcV (by simp)
  have c0 : V.cell? ⟨C, 0, none⟩ = some (.int .i64 kd) := by rw [row_cell rC]; rfl
  have c1 : V.cell? ⟨C, 1, none⟩ = some (.int .u32 (x0 : Int)) := by rw [row_cell rC]; rfl
  have c2 : V.cell? ⟨C, 2, none⟩ = some (.int .u32 (x1 : Int)) := by rw [row_cell rC]; rfl
  have c3 : V.cell? ⟨C, 3, none⟩ = some (.int .u32 (pc : Int)) := by rw [row_cell rC]; rfl
  have c4 : V.cell? ⟨C, 4, none⟩ = some (.slice p len c) := by rw [row_cell rC]; rfl
  have c5 : V.cell? ⟨C, 5, none⟩ = some (.int .i64 T) := by rw [row_cell rC]; rfl
  have HB : Hid (Below N w V) := Lib.hid (chg_below' (Below.refl _ _) hcV (by simp) hN)
  have HNV : Hid (N ≤ V.heap.size) := Lib.hid (Nat.le_trans hN hcV.size)
  have HRC := Lib.hid rC
  have HS := Lib.hid hS
  have HLV := Lib.hid hLV
  have HP := Lib.hid hp
  have HSB := Lib.hid hsb
  have HT := Lib.hid hT
  have HVV := Lib.hid hV
  have HCC := Lib.hid hC
  have H0 := Lib.hid h0
  have H5 := Lib.hid h5
  have HLT : Hid (bp < w.heap.size ∧ br < w.heap.size ∧ g < w.heap.size ∧ (∀ x, vr.ownBlock = some x → x < w.heap.size) ∧ (∀ x, vg.ownBlock = some x → x < w.heap.size)) := Lib.hid ⟨h.p.lt, h.r.lt, h.p.ltg, h.r.r.lt, h.r.g.lt⟩
  have hst := and1 x0 hx0
  have HST := Lib.hid hst
  clear hst hx0
  clear h hL hp hsb hV hC rC hcV hS hLV hN hT h0 h5
  by_cases k0 : kd = 0
  · subst k0
    obtain ⟨X, hX⟩ : ∃ X, X = V.heap.size := ⟨_, rfl⟩
    obtain ⟨V2, hV2⟩ : ∃ V2, V2 = V.alloc (.cells (xL (xOf x0 x1)).toArray 38) := ⟨_, rfl⟩
    have hc2 : Chg [] V V2 := by rw [hV2]; exact (Chg.refl _ _).alloc _
    have hxr : V2.row? X = some (xL (xOf x0 x1)).toArray := by rw [hV2]; exact row_alloc_at _ _ _ _ hX
    have hlit : (xL (xOf x0 x1)).toArray = #[.int .u32 (x0 : Int), .int .u32 0, .int .u32 0, .int .u32 0, .int .u32 0, .int .u32 (x1 : Int), .int .u32 0, .int .u32 0, .int .u32 0, .int .u32 0, .int .u32 0, .int .u32 0, .int .u32 0, .int .u32 0, .int .u32 0, .int .u32 0, .int .u32 0, .int .u32 0, .int .u32 0, .int .u32 0, .int .u32 0, .int .u32 0, .int .u32 0, .int .u32 0, .int .u32 0, .int .u32 0, .int .u32 0, .int .u32 0, .int .u32 0, .int .u32 0, .int .u32 0, .int .u32 (x0 : Int)] := rfl
    have HC2 := Lib.hid hc2
    have HXR := Lib.hid hxr
    have HV2 := Lib.hid hV2
    have HX := Lib.hid hX
    rw [hlit] at HV2
    have HLIT := Lib.hid hlit
    clear hX hV2 hc2 hxr hlit
    go_enter Try.func9, Try.ntmps9
    go_upto_region 1 with (fail)
    rw [← HCC.out, ← HVV.out]
    clear HVV HRC HLIT
    go_upto_region 5 with (refine wpList_store_new a38 _ _ rfl rfl rfl rfl rfl rfl rfl rfl ?_)
    rw [← HX.out, ← HV2.out]
    have hS2 := HS.out.keep HC2.out (by simp)
    have c3' : V2.cell? ⟨C, 3, none⟩ = some (.int .u32 (pc : Int)) := by
      rw [World.cell?_of_block (w := V) (HC2.out.block C (by simpa using World.block_lt_of_cell? V _ c3) (by simp))]; exact c3
    have hbx : bp ≠ X ∧ g ≠ X := by have := HS.out.p.lt; have := HS.out.p.ltg; have := HX.out; omega
    have hcx : C ≠ bp ∧ C ≠ g := by
      have hv : C = w.heap.size := HCC.out
      have h1 := HLT.out
      omega
    have HSK := Lib.hid (sim_keep hS2 H5.out (xOf x0 x1) pc)
    have HXC : Hid (∀ j u, (xL (xOf x0 x1))[j]? = some u → V2.cell? ⟨X, 0 + j, none⟩ = some u) := Lib.hid fun j u hu => by
      rw [Nat.zero_add, row_cell HXR.out]; simpa using hu
    have hxl := xL_len (xOf x0 x1)
    have HBX := Lib.hid hbx
    have HCX := Lib.hid hcx
    have HC3 := Lib.hid c3'
    clear hS2 c0 c1 c2 c3 c4 c5 hbx hcx HV2
    go_wp2_with (refine wpList_load_part a38 (xL (xOf x0 x1)) rfl _ rfl rfl hxl HXC.out ?_)
    refine HSK.out.mono ?_
    rintro e w1 ⟨rfl, hc1, hk2⟩
    have HK2 := Lib.hid hk2
    have HXC1 : Hid (∀ j u, (xL (xOf x0 x1))[j]? = some u → w1.cell? ⟨X, 0 + j, none⟩ = some u) := Lib.hid fun j u hu => by
      rw [World.cell?_of_block (w := V2) (hc1.block X (row_lt HXR.out) (by simp; have := HBX.out; omega))]; exact HXC.out j u hu
    have c3'' : w1.cell? ⟨C, 3, none⟩ = some (.int .u32 (pc : Int)) := by
      rw [World.cell?_of_block (w := V2) (hc1.block C (by simpa using World.block_lt_of_cell? V2 _ c3') (by simp; exact HCX.out))]; exact c3'
    clear hc1 hk2 c3'
    go_wp2_with (refine wpList_load_part a38 (xL (xOf x0 x1)) rfl _ rfl rfl hxl HXC1.out ?_)
    refine HK2.out.mono ?_
    rintro e w2 ⟨rfl, hc2, hs2⟩
    have HFIN : Hid (SimE N w2 bp br n ∧ Below N w w2) := Lib.hid ⟨hs2, chg_below' (chg_below' HB.out HC2.out (by simp) HNV.out) hc2 (fun x hx => by
      simp only [List.mem_cons] at hx
      rcases hx with rfl | rfl | hx
      · exact HS.out.np
      · exact HS.out.ng
      · exact HS.out.nvr x (by simpa using hx)) (Nat.le_trans HNV.out HC2.out.size)⟩
    clear hc2 hs2 c3''
    go_wp2
    go_ret
    exact ⟨rfl, HFIN.out⟩
  by_cases k1 : kd = 1
  · subst k1
    have HSP := Lib.hid (sim_pass HS.out H5.out)
    go_enter Try.func9, Try.ntmps9
    go_upto_region 1 with (fail)
    rw [← HCC.out, ← HVV.out]
    clear HVV HRC
    go_wp2_with fail
    refine HSP.out.mono ?_
    rintro e w1 ⟨rfl, hc1, hk2⟩
    have HK2 := Lib.hid hk2
    clear hk2 hc1 c0 c1 c2 c3 c4 c5
    go_wp2_with fail
    refine HK2.out.mono ?_
    rintro e w2 ⟨rfl, hc2, hs2⟩
    have HFIN : Hid (SimE N w2 bp br n ∧ Below N w w2) := Lib.hid ⟨hs2, chg_below' HB.out hc2 (fun x hx => by
      simp only [List.mem_cons, List.not_mem_nil, or_false] at hx
      rcases hx with rfl | rfl
      · exact HS.out.np
      · exact HS.out.nr) HNV.out⟩
    clear hc2 hs2
    go_wp2
    go_ret
    exact ⟨rfl, HFIN.out⟩
  by_cases k2 : kd = 2
  · subst k2
    go_enter Try.func9, Try.ntmps9
    go_upto_region 1 with (fail)
    rw [← HCC.out, ← HVV.out]
    clear HVV HRC
    go_upto_region 12 with (fail)
    rw [HST.out]
    obtain ⟨s, hs⟩ : ∃ s, s = wrap64 (1 + wrap64 ((x0 % 2 : Nat) : Int)) := ⟨_, rfl⟩
    rw [← hs]
    have hs0 : s ≠ 0 := by
      rw [hs, IntWalk.wrap64_in ((x0 % 2 : Nat) : Int) ⟨by omega, by omega⟩, IntWalk.wrap64_in _ ⟨by omega, by omega⟩]; omega
    have HSE := Lib.hid (sim_end HS.out H5.out s hs0 pc)
    have hcx : C ≠ bp ∧ C ≠ g := by
      have hv : C = w.heap.size := HCC.out
      have h1 := HLT.out
      omega
    have HCX := Lib.hid hcx
    clear hs hs0 hcx k0 k1 c0 c1 c2 c4 c5
    go_wp2_with fail
    refine HSE.out.mono ?_
    rintro e w1 ⟨rfl, hc1, hk2⟩
    have c3' : w1.cell? ⟨C, 3, none⟩ = some (.int .u32 (pc : Int)) := by
      rw [World.cell?_of_block (w := V) (hc1.block C (by simpa using World.block_lt_of_cell? V _ c3) (by simp; exact HCX.out))]; exact c3
    have HK2 := Lib.hid hk2
    clear hk2 hc1 c3
    go_wp2_with fail
    refine HK2.out.mono ?_
    rintro e w2 ⟨rfl, hc2, hs2⟩
    have HFIN : Hid (SimE N w2 bp br n ∧ Below N w w2) := Lib.hid ⟨hs2, chg_below' HB.out hc2 (fun x hx => by
      simp only [List.mem_cons, List.not_mem_nil, or_false] at hx
      rcases hx with rfl | rfl | rfl | hx
      · exact HS.out.np
      · exact HS.out.ng
      · exact HS.out.nr
      · exact HS.out.nvg x (by simpa using hx)) HNV.out⟩
    clear hc2 hs2
    clear c3'
    go_wp2
    go_ret
    exact ⟨rfl, HFIN.out⟩
  · have d0 : (kd == 0) = false := by simpa using k0
    have d1 : (kd == 1) = false := by simpa using k1
    have d2 : (kd == 2) = false := by simpa using k2
    have e0 : (kd = 0) = False := by simpa using k0
    have e1 : (kd = 1) = False := by simpa using k1
    have e2 : (kd = 2) = False := by simpa using k2
    clear k0 k1 k2
    have hs := sim_set (HS.out.keep ((Chg.refl [] V).drew) (by simp)) H5.out H0.out p sb so len c L T HT.out HP.out (HLV.out.keep ((Chg.refl [] V).drew) (by simp)) HSB.out
    have HSS := Lib.hid hs
    have hbc : C ≠ bp := by have := HLT.out; have := HCC.out; omega
    have HBC := Lib.hid hbc
    clear hs hbc
    go_enter Try.func9, Try.ntmps9
    go_upto_region 1 with (fail)
    rw [← HCC.out, ← HVV.out]
    clear HVV HRC
    go_upto_region 2 with (fail)
    refine wp_region_C (fun w' => w'.cell? ⟨C, 4, none⟩ = some (.slice p len c) ∧ w'.cell? ⟨C, 5, none⟩ = some (.int .i64 T)) [(0, 0), (1, 0), (2, 1), (3, 0), (4, 1), (6, 0), (7, 0), (8, 1), (9, 0), (10, 1), (5, 2), (11, 3), (12, 0), (13, 0)] rfl (by kernel_rfl) ?hSA ?hTA
    case hSA => exact ⟨c4, c5⟩
    refine wpT_pureD (v := ?_) (some 11) rfl rfl (by rfl) (fun w' => ?_) ?_
    rotate_left
    · (go_simp; try with_reducible rfl)
    try simp only [Act.put, List.setIfInBounds_toArray, List.set_cons_zero, List.set_cons_succ]
    refine wpT_pureD (v := ?_) (some 12) rfl rfl (by rfl) (fun w' => ?_) ?_
    rotate_left
    · (go_simp; try with_reducible rfl)
    try simp only [Act.put, List.setIfInBounds_toArray, List.set_cons_zero, List.set_cons_succ]
    refine wpT_readD (v := ?_) (some 13) rfl rfl (by rfl) (fun w' hw => ?_) ?_
    rotate_left
    · (obtain ⟨q0, q1⟩ := hw; go_simp; try with_reducible rfl)
    try simp only [Act.put, List.setIfInBounds_toArray, List.set_cons_zero, List.set_cons_succ]
    refine wpT_pureD (v := ?_) (some 14) rfl rfl (by rfl) (fun w' => ?_) ?_
    rotate_left
    · (go_simp; try with_reducible rfl)
    try simp only [Act.put, List.setIfInBounds_toArray, List.set_cons_zero, List.set_cons_succ]
    refine wpT_readD (v := ?_) (some 15) rfl rfl (by rfl) (fun w' hw => ?_) ?_
    rotate_left
    · (obtain ⟨q0, q1⟩ := hw; go_simp; try with_reducible rfl)
    try simp only [Act.put, List.setIfInBounds_toArray, List.set_cons_zero, List.set_cons_succ]
    refine wpT_pureD (v := ?_) (some 17) rfl rfl (by rfl) (fun w' => ?_) ?_
    rotate_left
    · (go_simp; try with_reducible rfl)
    try simp only [Act.put, List.setIfInBounds_toArray, List.set_cons_zero, List.set_cons_succ]
    refine wpT_pureD (v := ?_) (some 18) rfl rfl (by rfl) (fun w' => ?_) ?_
    rotate_left
    · (go_simp; try with_reducible rfl)
    try simp only [Act.put, List.setIfInBounds_toArray, List.set_cons_zero, List.set_cons_succ]
    refine wpT_readD (v := ?_) (some 19) rfl rfl (by rfl) (fun w' hw => ?_) ?_
    rotate_left
    · (obtain ⟨q0, q1⟩ := hw; go_simp; try with_reducible rfl)
    try simp only [Act.put, List.setIfInBounds_toArray, List.set_cons_zero, List.set_cons_succ]
    refine wpT_pureD (v := ?_) (some 20) rfl rfl (by rfl) (fun w' => ?_) ?_
    rotate_left
    · (go_simp; try with_reducible rfl)
    try simp only [Act.put, List.setIfInBounds_toArray, List.set_cons_zero, List.set_cons_succ]
    refine wpT_readD (v := ?_) (some 21) rfl rfl (by rfl) (fun w' hw => ?_) ?_
    rotate_left
    · (obtain ⟨q0, q1⟩ := hw; go_simp; try with_reducible rfl)
    try simp only [Act.put, List.setIfInBounds_toArray, List.set_cons_zero, List.set_cons_succ]
    refine wpT_eff rfl (by rfl) (fun K hK => ?_)
    go_wp2_with fail
    refine HSS.out.mono ?_
    rintro e w1 ⟨r, rfl, hc1, hk2⟩
    have hc1 : Chg [bp] V w1 := ((Chg.refl [bp] V).drew).trans hc1
    have hS1 : w1.cell? ⟨C, 4, none⟩ = some (.slice p len c) ∧ w1.cell? ⟨C, 5, none⟩ = some (.int .i64 T) := by
      constructor
      · rw [World.cell?_of_block (w := V) (hc1.block C (by simpa using World.block_lt_of_cell? V _ c4) (by simpa using HBC.out))]; exact c4
      · rw [World.cell?_of_block (w := V) (hc1.block C (by simpa using World.block_lt_of_cell? V _ c5) (by simpa using HBC.out))]; exact c5
    have HK2 := Lib.hid hk2
    have HS1 := Lib.hid hS1
    clear hc1 hk2 hS1 c4 c5
    go_wp2_with fail
    refine hK _ _ HS1.out ?_
    clear hK K
    refine wpT_brk rfl (by rfl) (fun K hK => ?_)
    go_wp2_with fail
    refine HK2.out.mono ?_
    rintro e w2 ⟨rfl, hc2, hs2⟩
    have HFIN : Hid (SimE N w2 bp br n ∧ Below N w w2) := Lib.hid ⟨hs2, chg_below' HB.out (((Chg.refl [bp, br] V).drew).trans hc2) (fun x hx => by
      simp only [List.mem_cons, List.not_mem_nil, or_false] at hx
      rcases hx with rfl | rfl
      · exact HS.out.np
      · exact HS.out.nr) HNV.out⟩
    clear hc2 hs2
    go_wp2_with fail
    refine wpT_pureD (v := ?_) (some 23) rfl rfl (by rfl) (fun w' => ?_) ?_
    rotate_left
    · (go_simp; try with_reducible rfl)
    try simp only [Act.put, List.setIfInBounds_toArray, List.set_cons_zero, List.set_cons_succ]
    refine wpT_pureD (v := ?_) (some 6) rfl rfl (by rfl) (fun w' => ?_) ?_
    rotate_left
    · (go_simp; try with_reducible rfl)
    try simp only [Act.put, List.setIfInBounds_toArray, List.set_cons_zero, List.set_cons_succ]
    refine wpT_end ?_
    go_wp2
    go_ret
    exact ⟨rfl, HFIN.out⟩
end Go.Proofs.L
