/- Proved here: lemmas and contracts (PlanLaw) for the laws of this seat, for all values of the stated types; no further condition. -/
import Derived.Test.YtlceohlbpgcmpaaDoorRefPower
open Go Go.RowKit Go.Lib
namespace Go.Proofs.L
/-! an access against the ranges of a plan (plain law) -/
def rngE (p : Nat) (e : Ent) : Nat × Nat :=
  if e.way = 1 then (p * 4, max (p * 4) (e.addr * 4))
  else if e.way = 2 then (e.addr * 4, e.addr * 4 + 4)
  else if e.way = 3 then (e.addr * 4 / sizeN e.addr * sizeN e.addr, e.addr * 4 / sizeN e.addr * sizeN e.addr + sizeN e.addr)
  else (0, 0)
def rngs : Nat → List Ent → List (Nat × Nat × Int)
  | _, [] => []
  | p, e :: l => ((rngE p e).1, (rngE p e).2, e.rights) :: rngs e.addr l
theorem rngs_len (p : Nat) (L : List Ent) : (rngs p L).length = L.length := by
  induction L generalizing p with
  | nil => rfl
  | cons a l ih => simp [rngs, ih]
theorem rangeN_some {L : List Ent} {i : Nat} {e : Ent} (h : L[i]? = some e) : rangeN L i = rngE (if i = 0 then 0 else (L.getD (i - 1) default).addr) e := by
  unfold rangeN rngE
  rw [h]
  by_cases hi : i = 0
  · subst hi; simp
  · simp only [if_neg hi]
theorem rngs_get (L : List Ent) (p i : Nat) (e : Ent) (h : L[i]? = some e) :
    (rngs p L)[i]? = some ((rngE (if i = 0 then p else (L.getD (i - 1) default).addr) e).1, (rngE (if i = 0 then p else (L.getD (i - 1) default).addr) e).2, e.rights) := by
  induction L generalizing p i with
  | nil => simp at h
  | cons a l ih =>
    cases i with
    | zero => simp at h; subst h; simp [rngs]
    | succ i =>
      simp at h
      have := ih a.addr i h
      simp only [rngs, List.getElem?_cons_succ]
      rw [this, if_neg (show ¬ i + 1 = 0 by omega)]
      cases i with
      | zero => simp
      | succ j => simp
theorem rngs_range {L : List Ent} {i : Nat} {e : Ent} (h : L[i]? = some e) : (rngs 0 L)[i]? = some ((rangeN L i).1, (rangeN L i).2, e.rights) := by
  rw [rngs_get L 0 i e h, rangeN_some h]
def hitR (f t : Nat) (x : Nat × Nat × Int) : Bool := decide (f < x.2.1) && decide (x.1 < t) && decide (x.1 < x.2.1)
def allR (f t : Nat) (r : Int) (x : Nat × Nat × Int) : Bool := decide (x.1 ≤ f) && decide (t ≤ x.2.1) && (bits .and .i64 x.2.2 r == r)
def chk (f t : Nat) (r : Int) : List (Nat × Nat × Int) → Bool
  | [] => false
  | x :: l => if hitR f t x then allR f t r x else chk f t r l
theorem check_from (L : List Ent) (f t : Nat) (r : Int) : ∀ k i, i + k = L.length → checkFrom L f t r k i = chk f t r ((rngs 0 L).drop i) := by
  intro k
  induction k with
  | zero => intro i hi; rw [List.drop_eq_nil_of_le (by rw [rngs_len]; omega)]; rfl
  | succ k ih =>
    intro i hi
    have hl : i < L.length := by omega
    have he : L[i]? = some L[i] := List.getElem?_eq_getElem hl
    have hr := rngs_range he
    have hl2 : i < (rngs 0 L).length := by rw [rngs_len]; exact hl
    rw [List.getElem?_eq_getElem hl2] at hr
    injection hr with hr
    rw [List.drop_eq_getElem_cons hl2, hr]
    show (if hitN L f t i then allN L f t i r else checkFrom L f t r k (i + 1)) = if hitR f t _ then allR f t r _ else chk f t r _
    rw [ih (i + 1) (by omega)]
    have e1 : L.getD i default = L[i] := by rw [List.getD_eq_getElem?_getD, he]; rfl
    unfold hitN hitR allN allR
    rw [e1]
theorem check_chk (L : List Ent) (f t : Nat) (r : Int) : checkN L f t r = chk f t r (rngs 0 L) := by
  unfold checkN
  rw [check_from L f t r L.length 0 (by omega)]
  rfl
theorem ctz_from (f k m : Nat) (h : k < f) : Lib.ctzFrom f (2 ^ k * (2 * m + 1)) = k := by
  induction f generalizing k with
  | zero => omega
  | succ f ih =>
    unfold Lib.ctzFrom
    cases k with
    | zero => rw [Nat.pow_zero, Nat.one_mul, if_pos (by omega)]
    | succ k =>
      have e : 2 ^ (k + 1) * (2 * m + 1) = 2 * (2 ^ k * (2 * m + 1)) := by rw [Nat.pow_succ, Nat.mul_comm (2 ^ k) 2, Nat.mul_assoc]
      rw [e, if_neg (by omega), Nat.mul_div_cancel_left _ (by decide), ih k (by omega)]
      omega
theorem size_at (q k : Nat) (hk : k < 29) (hq : q < 2 ^ (29 - k)) : sizeN (2 ^ (k + 1) * q + 2 ^ k - 1) = 8 * 2 ^ k := by
  have hp : 0 < 2 ^ k := Nat.two_pow_pos k
  have h32 : 2 ^ k * 2 ^ (32 - k) = 4294967296 := by rw [← Nat.pow_add, show k + (32 - k) = 32 by omega]
  have h29 : 2 ^ (32 - k) = 8 * 2 ^ (29 - k) := by rw [show 32 - k = (29 - k) + 3 by omega, Nat.pow_add]; omega
  have e : 4294967295 - (2 ^ (k + 1) * q + 2 ^ k - 1) = 2 ^ k * (2 * (2 ^ (31 - k) - q - 1) + 1) := by
    have h31 : 2 ^ (31 - k) = 4 * 2 ^ (29 - k) := by rw [show 31 - k = (29 - k) + 2 by omega, Nat.pow_add]; omega
    obtain ⟨d, hd⟩ : ∃ d, 2 ^ (29 - k) = q + 1 + d := ⟨2 ^ (29 - k) - q - 1, by omega⟩
    have e1 : 2 * (2 ^ (31 - k) - q - 1) + 1 = 2 ^ (32 - k) - (2 * q + 1) := by omega
    rw [e1, Nat.mul_sub, h32, Nat.mul_add, Nat.pow_succ, Nat.mul_one, Nat.mul_assoc]
    omega
  unfold sizeN Lib.ctz
  rw [e, if_neg (by have := Nat.mul_pos hp (show 0 < 2 * (2 ^ (31 - k) - q - 1) + 1 by omega); omega), ctz_from 32 k _ (by omega), Nat.pow_add]
def gR (g : Gr) : Nat × Nat × Int := (g.start, g.start + g.size, g.rights)
theorem okG_nat {g : Gr} (h : okG g = true) : g.start % 4 = 0 ∧ g.size % 4 = 0 ∧ g.size ≠ 0 ∧ g.start + g.size ≤ 4294967296 ∧ 1 ≤ g.rights ∧ g.rights ≤ 7 := by
  simpa only [okG, Bool.and_eq_true, decide_eq_true_eq, and_assoc] using h
theorem napot_rng (st sz : Nat) (h1 : onesN sz = 1) (h2 : st % sz = 0) (h4 : sz % 4 = 0) (hn : sz ≠ 4) (hlt : st + sz ≤ 4294967296) (hz : sz < 4294967296) (p : Nat) (rt : Int) : rngE p ⟨3, rt, st / 4 ||| (sz / 8 - 1)⟩ = (st, st + sz) := by
  obtain ⟨k, hk⟩ := (ones_four sz hz h4).1 h1
  cases k with
  | zero => omega
  | succ k =>
    have hp : 0 < 2 ^ k := Nat.two_pow_pos k
    have e1 : sz = 8 * 2 ^ k := by rw [hk, Nat.pow_succ]; omega
    rw [or_add st sz k hk h2]
    obtain ⟨q, rfl⟩ : ∃ q, st = sz * q := ⟨st / sz, by have := Nat.div_add_mod st sz; omega⟩
    have hk28 : k < 29 := by
      apply Nat.lt_of_not_le
      intro hle
      have := Nat.pow_le_pow_right (n := 2) (by decide) hle
      omega
    have hq : q < 2 ^ (29 - k) := by
      apply Nat.lt_of_not_le
      intro hle
      have a1 : 2 ^ k * 2 ^ (29 - k) = 536870912 := by rw [← Nat.pow_add, show k + (29 - k) = 29 by omega]
      have a2 := Nat.mul_le_mul_left (2 ^ k) hle
      have a3 : sz * q = 8 * (2 ^ k * q) := by rw [e1, Nat.mul_assoc]
      omega
    have e2 : sz * q / 4 + sz / 8 - 1 = 2 ^ (k + 1) * q + 2 ^ k - 1 := by
      have a3 : sz * q = 4 * (2 ^ (k + 1) * q) := by rw [hk, Nat.mul_assoc]
      rw [a3, Nat.mul_div_cancel_left _ (by decide)]
      omega
    have e3 : sizeN (sz * q / 4 + sz / 8 - 1) = sz := by rw [e2, size_at q k hk28 hq, e1]
    have e4 : (sz * q / 4 + sz / 8 - 1) * 4 / sz * sz = sz * q := by
      have a3 : sz * q = 4 * (2 ^ (k + 1) * q) := by rw [hk, Nat.mul_assoc]
      have a4 : (sz * q / 4 + sz / 8 - 1) * 4 = sz * q + (sz / 2 - 4) := by omega
      rw [a4, Nat.mul_add_div (by omega), Nat.div_eq_of_lt (by omega), Nat.add_zero, Nat.mul_comm]
    unfold rngE
    simp only []
    rw [if_neg (by decide), if_neg (by decide), if_pos (by decide), e3, e4]
theorem rngs_one (g : Gr) (h : okG g = true) (hz : g.size < 4294967296) (p : Nat) (B : List Ent) : ∃ pre q, (pre = [] ∨ pre = [(0, 0, 0)]) ∧ rngs p (oneN g ++ B) = pre ++ gR g :: rngs q B := by
  obtain ⟨h1, h2, h3, h4, -, -⟩ := okG_nat h
  obtain ⟨st, sz, rt⟩ := g
  simp only [] at h1 h2 h3 h4 hz
  unfold oneN gR
  simp only []
  by_cases c : sz = 4
  · subst c
    rw [if_pos rfl]
    refine ⟨[], st / 4, .inl rfl, ?_⟩
    simp only [rngs, List.cons_append, List.nil_append]
    congr 1
    have e1 : (rngE p ⟨2, rt, st / 4⟩) = (st, st + 4) := by
      unfold rngE
      simp only []
      rw [if_neg (by decide), if_pos (by decide)]
      congr 1 <;> omega
    rw [e1]
  · rw [if_neg c]
    by_cases c2 : onesN sz = 1 ∧ st % sz = 0
    · rw [if_pos c2]
      refine ⟨[], st / 4 ||| (sz / 8 - 1), .inl rfl, ?_⟩
      simp only [rngs, List.cons_append, List.nil_append]
      rw [napot_rng st sz c2.1 c2.2 h2 c h4 hz p rt]
    · rw [if_neg c2]
      refine ⟨[(0, 0, 0)], (st + sz) / 4, .inr rfl, ?_⟩
      simp only [rngs, List.cons_append, List.nil_append]
      have e1 : rngE p ⟨0, 0, st / 4⟩ = (0, 0) := by
        unfold rngE
        simp only []
        rw [if_neg (by decide), if_neg (by decide), if_neg (by decide)]
      have e2 : rngE (st / 4) ⟨1, rt, (st + sz) / 4⟩ = (st, st + sz) := by
        unfold rngE
        simp only [if_true]
        congr 1 <;> omega
      rw [e1, e2]
theorem last_rng (p : Nat) : rngs p [lastE] = [(0, 4294967296, 0)] := by
  have : rngE p lastE = (0, 4294967296) := by
    unfold rngE lastE
    simp only []
    rw [if_neg (by decide), if_neg (by decide), if_pos (by decide)]
    decide +kernel
  simp only [rngs]
  rw [this]
  rfl
theorem hit_gR (f t : Nat) (g : Gr) : hitR f t (gR g) = true ↔ f < g.start + g.size ∧ g.start < t ∧ g.start < g.start + g.size := by
  show ((decide (f < g.start + g.size) && decide (g.start < t)) && decide (g.start < g.start + g.size)) = true ↔ _
  simp only [Bool.and_eq_true, decide_eq_true_eq, and_assoc]
theorem hit_none (f t : Nat) : hitR f t (0, 0, 0) = false := by unfold hitR; simp
theorem chk_out (G : List Gr) (h : G.all okG = true) (hz : ∀ g ∈ G, g.size < 4294967296) (f t : Nat) (r : Int) (p : Nat) : chk f t r (rngs p (outN G)) = chk f t r (G.map gR ++ [(0, 4294967296, 0)]) := by
  unfold outN manyN
  induction G generalizing p with
  | nil => rw [List.flatMap_nil, List.nil_append, last_rng]; rfl
  | cons g G ih =>
    rw [List.all_cons, Bool.and_eq_true] at h
    rw [List.flatMap_cons, List.append_assoc]
    obtain ⟨pre, q, hp, e⟩ := rngs_one g h.1 (hz g (by simp)) p (G.flatMap oneN ++ [lastE])
    rw [e]
    have e2 := ih h.2 (fun g hg => hz g (by simp [hg])) q
    rcases hp with rfl | rfl
    · simp only [List.nil_append, List.map_cons, List.cons_append, chk]
      rw [e2]
    · simp only [List.map_cons, List.cons_append, List.nil_append, chk, hit_none]
      rw [e2]
      rfl
def farG (a b : Gr) : Prop := a.start + a.size ≤ b.start ∨ b.start + b.size ≤ a.start
def goodG (G : List Gr) : Prop := G.all okG = true ∧ G.Pairwise farG
set_option maxRecDepth 100000 in
theorem right_tab : ∀ r : Nat, r < 8 → ∀ k : Nat, k < 3 → (bits .and .i64 (r : Int) ((2 ^ k : Nat) : Int) == ((2 ^ k : Nat) : Int)) = decide (0 < bits .and .i64 (r : Int) ((2 ^ k : Nat) : Int)) := by decide +kernel
set_option maxRecDepth 100000 in
theorem right_zero : ∀ k : Nat, k < 3 → (bits .and .i64 0 ((2 ^ k : Nat) : Int) == ((2 ^ k : Nat) : Int)) = false := by decide +kernel
def mayG (x m : Nat) (r : Int) (g : Gr) : Bool := decide (0 < bits .and .i64 g.rights r) && (decide (g.start ≤ x) && decide (x + m ≤ g.start + g.size))
theorem grants_law (G : List Gr) (hG : goodG G) (x m k : Nat) (hm : 1 ≤ m) (hx : x < 4294967296) (hk : k < 3) :
    chk x (x + m) ((2 ^ k : Nat) : Int) (G.map gR ++ [(0, 4294967296, 0)]) = G.any (mayG x m ((2 ^ k : Nat) : Int)) := by
  obtain ⟨h1, h2⟩ := hG
  induction G with
  | nil =>
    simp only [List.map_nil, List.nil_append, chk, List.any_nil]
    split
    · unfold allR
      simp only []
      rw [right_zero k hk, Bool.and_false]
    · rfl
  | cons g G ih =>
    rw [List.all_cons, Bool.and_eq_true] at h1
    rw [List.pairwise_cons] at h2
    obtain ⟨k1, k2, k3, k4, k5, k6⟩ := okG_nat h1.1
    simp only [List.map_cons, List.cons_append, chk, List.any_cons]
    by_cases hh : hitR x (x + m) (gR g) = true
    · rw [if_pos hh]
      have hh2 := hh
      rw [hit_gR] at hh2
      have hr : G.any (mayG x m ((2 ^ k : Nat) : Int)) = false := by
        rw [Bool.eq_false_iff]
        intro ha
        rw [List.any_eq_true] at ha
        obtain ⟨o, ho, hy⟩ := ha
        have hf := h2.1 o ho
        simp only [mayG, Bool.and_eq_true, decide_eq_true_eq] at hy
        unfold farG at hf
        omega
      rw [hr, Bool.or_false]
      have he : (bits .and .i64 g.rights ((2 ^ k : Nat) : Int) == ((2 ^ k : Nat) : Int)) = decide (0 < bits .and .i64 g.rights ((2 ^ k : Nat) : Int)) := by
        obtain ⟨r, hr⟩ : ∃ r : Nat, g.rights = r := ⟨g.rights.toNat, by omega⟩
        rw [hr]
        exact right_tab r (by omega) k hk
      unfold allR mayG gR
      simp only []
      rw [he, Bool.and_comm]
    · rw [if_neg hh, ih h1.2 h2.2]
      have : mayG x m ((2 ^ k : Nat) : Int) g = false := by
        rw [Bool.eq_false_iff]
        intro hy
        apply hh
        simp only [mayG, Bool.and_eq_true, decide_eq_true_eq] at hy
        rw [hit_gR]
        omega
      rw [this, Bool.false_or]
/-- an access against a plan's entries -/
theorem plan_check (G : List Gr) (hG : goodG G) (hz : ∀ g ∈ G, g.size < 4294967296) (x m k : Nat) (hm : 1 ≤ m) (hx : x < 4294967296) (hk : k < 3) :
    checkN (outN G) x (x + m) ((2 ^ k : Nat) : Int) = G.any (mayG x m ((2 ^ k : Nat) : Int)) := by
  rw [check_chk, chk_out G hG.1 hz, grants_law G hG x m k hm hx hk]
end Go.Proofs.L
