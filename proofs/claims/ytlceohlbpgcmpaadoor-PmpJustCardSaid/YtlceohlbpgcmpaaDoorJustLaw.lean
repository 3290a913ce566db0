/- Proved here: lemmas and contracts (JustLaw) for the laws of this seat, for all values of the stated types; no further condition. -/
import Derived.Test.YtlceohlbpgcmpaaDoorBytesLaw
open Go Go.RowKit Go.Lib
namespace Go.Proofs.L
/-! runs of a plan against its grants (plain law) -/
def cntN (p : Nat → Bool) : Nat → Nat
  | 0 => 0
  | n + 1 => cntN p n + if p n then 1 else 0
theorem cnt_congr {p r : Nat → Bool} (n : Nat) (h : ∀ q, q < n → p q = r q) : cntN p n = cntN r n := by
  induction n with
  | zero => rfl
  | succ n ih =>
    show cntN p n + (if p n then 1 else 0) = cntN r n + if r n then 1 else 0
    rw [ih (fun q hq => h q (by omega)), h n (by omega)]
theorem cnt_or {p r : Nat → Bool} (n : Nat) (h : ∀ q, q < n → ¬ (p q = true ∧ r q = true)) : cntN (fun q => p q || r q) n = cntN p n + cntN r n := by
  induction n with
  | zero => rfl
  | succ n ih =>
    show cntN (fun q => p q || r q) n + (if (p n || r n) then 1 else 0) = cntN p n + (if p n then 1 else 0) + (cntN r n + if r n then 1 else 0)
    rw [ih (fun q hq => h q (by omega))]
    have := h n (by omega)
    cases hp : p n <;> cases hr : r n <;> simp_all <;> omega
theorem cnt_iv (a b n : Nat) (hab : a ≤ b) (hb : b ≤ n) : cntN (fun q => decide (a ≤ q) && decide (q < b)) n = b - a := by
  have key : ∀ m, cntN (fun q => decide (a ≤ q) && decide (q < b)) m = min m b - min m a := by
    intro m
    induction m with
    | zero => simp [cntN]
    | succ m ih =>
      show cntN _ m + (if (decide (a ≤ m) && decide (m < b)) then 1 else 0) = _
      rw [ih]
      by_cases h1 : a ≤ m <;> by_cases h2 : m < b <;> simp [h1, h2] <;> omega
  rw [key]
  omega
theorem cnt_none (n : Nat) : cntN (fun _ => false) n = 0 := by
  induction n with
  | zero => rfl
  | succ n ih => show cntN _ n + 0 = 0; rw [ih]
def inI (i : Nat × Nat) (q : Nat) : Bool := decide (i.1 ≤ q) && decide (q < i.2)
theorem inI_iff (i : Nat × Nat) (q : Nat) : inI i q = true ↔ i.1 ≤ q ∧ q < i.2 := by unfold inI; simp
theorem cnt_sum (I : List (Nat × Nat)) (n : Nat) (h : ∀ i ∈ I, i.1 ≤ i.2 ∧ i.2 ≤ n) (hp : I.Pairwise fun i j => i.2 ≤ j.1 ∨ j.2 ≤ i.1) : cntN (fun q => I.any fun i => inI i q) n = (I.map fun i => i.2 - i.1).sum := by
  induction I with
  | nil => exact cnt_none n
  | cons i I ih =>
    rw [List.pairwise_cons] at hp
    have e : cntN (fun q => (i :: I).any fun i => inI i q) n = cntN (fun q => inI i q || I.any fun i => inI i q) n := cnt_congr n (fun q _ => by rw [List.any_cons])
    rw [e, cnt_or n (fun q _ hh => ?_), ih (fun j hj => h j (by simp [hj])) hp.2, List.map_cons, List.sum_cons]
    · have := h i (by simp)
      have e5 : cntN (inI i) n = i.2 - i.1 := cnt_iv i.1 i.2 n this.1 this.2
      rw [e5]
    · obtain ⟨h1, h2⟩ := hh
      rw [List.any_eq_true] at h2
      obtain ⟨j, hj, h2⟩ := h2
      rw [inI_iff] at h1 h2
      rcases hp.1 j hj with h3 | h3 <;> omega
theorem byte_out (G : List Gr) (h : G.all okG = true) (hz : ∀ g ∈ G, g.size < 4294967296) (q p : Nat) : byteX (rngs p (outN G)) q = byteX (G.map gR ++ [(0, 4294967296, 0)]) q := by
  unfold outN manyN
  induction G generalizing p with
  | nil => rw [List.flatMap_nil, List.nil_append, last_rng]; rfl
  | cons g G ih =>
    rw [List.all_cons, Bool.and_eq_true] at h
    rw [List.flatMap_cons, List.append_assoc]
    obtain ⟨pre, q', hp, e⟩ := rngs_one g h.1 (hz g (by simp)) p (G.flatMap oneN ++ [lastE])
    rw [e]
    have e2 := ih h.2 (fun g hg => hz g (by simp [hg])) q'
    rcases hp with rfl | rfl
    · simp only [List.nil_append, List.map_cons, List.cons_append, byteX]
      rw [e2]
    · simp only [List.map_cons, List.cons_append, List.nil_append, byteX]
      rw [e2, if_neg (by omega)]
theorem byte_in (G : List Gr) (hG : goodG G) (g : Gr) (hg : g ∈ G) (q : Nat) (h1 : g.start ≤ q) (h2 : q < g.start + g.size) : byteX (G.map gR ++ [(0, 4294967296, 0)]) q = g.rights := by
  obtain ⟨ha, hp⟩ := hG
  induction G with
  | nil => cases hg
  | cons o G ih =>
    rw [List.pairwise_cons] at hp
    rw [List.all_cons, Bool.and_eq_true] at ha
    simp only [List.map_cons, List.cons_append, byteX]
    by_cases c : (gR o).1 ≤ q ∧ q < (gR o).2.1
    · rw [if_pos c]
      rw [List.mem_cons] at hg
      rcases hg with rfl | hg
      · rfl
      · have := hp.1 g hg
        unfold farG at this
        have c1 : o.start ≤ q := c.1
        have c2 : q < o.start + o.size := c.2
        omega
    · rw [if_neg c]
      rw [List.mem_cons] at hg
      rcases hg with rfl | hg
      · exact absurd ⟨h1, h2⟩ c
      · exact ih hg ha.2 hp.2
theorem byte_no (G : List Gr) (q : Nat) (h : ∀ g ∈ G, ¬ (g.start ≤ q ∧ q < g.start + g.size)) : byteX (G.map gR ++ [(0, 4294967296, 0)]) q = 0 := by
  induction G with
  | nil =>
    simp only [List.map_nil, List.nil_append, byteX]
    split <;> rfl
  | cons o G ih =>
    simp only [List.map_cons, List.cons_append, byteX]
    rw [if_neg (show ¬ ((gR o).1 ≤ q ∧ q < (gR o).2.1) from h o (by simp)), ih (fun g hg => h g (by simp [hg]))]
theorem just_found {G : List Gr} (hG : goodG G) {R : List Rn} {N : Nat} (hN : N = 4294967296) (h : RunsOk (G.map gR ++ [(0, 4294967296, 0)]) R N) {g : Gr} (hg : g ∈ G) :
    ∃ x ∈ R, x.f ≤ g.start ∧ g.start + g.size ≤ x.t ∧ x.r = g.rights := by
  obtain ⟨k1, k2, k3, k4, k5, k6⟩ := okG_nat (List.all_eq_true.1 hG.1 g hg)
  have hb := byte_in G hG g hg g.start (Nat.le_refl _) (by omega)
  obtain ⟨x, hx, x1, x2⟩ := h.cov g.start (by omega) (by rw [hb]; omega)
  obtain ⟨f1, f2, f3, f4⟩ := h.each x hx
  have hxr : x.r = g.rights := by rw [← f4 g.start x1 x2, hb]
  refine ⟨x, hx, x1, ?_, hxr⟩
  apply Nat.le_of_not_lt
  intro hlt
  obtain ⟨i, hi⟩ := List.getElem?_of_mem hx
  exact run_behind h hi (by omega) (by rw [byte_in G hG g hg x.t (by omega) hlt, hxr])
theorem just_sum {G : List Gr} (hG : goodG G) {R : List Rn} {N : Nat} (hN : N = 4294967296) (h : RunsOk (G.map gR ++ [(0, 4294967296, 0)]) R N) : (R.map fun x => x.t - x.f).sum = (G.map fun g => g.size).sum := by
  have e1 := cnt_sum (R.map fun x => (x.f, x.t)) N (fun i hi => by
    obtain ⟨x, hx, rfl⟩ := List.mem_map.1 hi
    obtain ⟨f1, f2, -, -⟩ := h.each x hx
    exact ⟨by show x.f ≤ x.t; omega, f2⟩) (by
    rw [List.pairwise_map]
    exact h.pw.imp (fun hf => .inl hf.1))
  have e2 := cnt_sum (G.map fun g => (g.start, g.start + g.size)) N (fun i hi => by
    obtain ⟨g, hg, rfl⟩ := List.mem_map.1 hi
    obtain ⟨k1, k2, k3, k4, k5, k6⟩ := okG_nat (List.all_eq_true.1 hG.1 g hg)
    exact ⟨by show g.start ≤ g.start + g.size; omega, by show g.start + g.size ≤ N; omega⟩) (by
    rw [List.pairwise_map]
    exact hG.2.imp (fun hf => hf))
  have e3 : cntN (fun q => (R.map fun x => (x.f, x.t)).any fun i => inI i q) N = cntN (fun q => (G.map fun g => (g.start, g.start + g.size)).any fun i => inI i q) N := cnt_congr N (fun q hq => by
    rw [Bool.eq_iff_iff, List.any_eq_true, List.any_eq_true]
    constructor
    · rintro ⟨i, hi, hin⟩
      obtain ⟨x, hx, rfl⟩ := List.mem_map.1 hi
      rw [inI_iff] at hin
      obtain ⟨f1, f2, f3, f4⟩ := h.each x hx
      have hb := f4 q hin.1 hin.2
      apply Classical.byContradiction
      intro hno
      rw [byte_no G q (fun g hg hh => hno ⟨(g.start, g.start + g.size), List.mem_map.2 ⟨g, hg, rfl⟩, (inI_iff _ _).2 hh⟩)] at hb
      exact f3 hb.symm
    · rintro ⟨i, hi, hin⟩
      obtain ⟨g, hg, rfl⟩ := List.mem_map.1 hi
      rw [inI_iff] at hin
      obtain ⟨k1, k2, k3, k4, k5, k6⟩ := okG_nat (List.all_eq_true.1 hG.1 g hg)
      have hb := byte_in G hG g hg q hin.1 hin.2
      obtain ⟨x, hx, x1, x2⟩ := h.cov q hq (by rw [hb]; omega)
      exact ⟨(x.f, x.t), List.mem_map.2 ⟨x, hx, rfl⟩, (inI_iff _ _).2 ⟨x1, x2⟩⟩)
  rw [e1, e2] at e3
  rw [List.map_map, List.map_map] at e3
  have e4 : (G.map fun g => g.size) = G.map ((fun i : Nat × Nat => i.2 - i.1) ∘ fun g : Gr => (g.start, g.start + g.size)) := List.map_congr_left (fun g _ => by show g.size = g.start + g.size - g.start; omega)
  rw [e4, ← e3]
  rfl
theorem runsOk_congr {X Y : List Rg3} {R : List Rn} {N : Nat} (h : RunsOk X R N) (hb : ∀ q, byteX X q = byteX Y q) : RunsOk Y R N :=
  ⟨fun x hx => by obtain ⟨a, b, c, d⟩ := h.each x hx; exact ⟨a, b, c, fun q h1 h2 => by rw [← hb]; exact d q h1 h2⟩, h.pw, fun q hq hne => h.cov q hq (by rw [hb]; exact hne)⟩
end Go.Proofs.L
