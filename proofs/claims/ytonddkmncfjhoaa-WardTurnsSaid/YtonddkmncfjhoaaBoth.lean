/- Proved here: lemmas and contracts (Both) for the laws of this seat, for all values of the stated types; no further condition. -/
import Derived.Test.YtonddkmncfjhoaaRefNew
open Go Go.RowKit Go.Lib
namespace Go.Proofs.L
theorem cyc_nodup : ∀ n, n < 5 → ∀ t, t < n → (cyc t n).Nodup := by decide
theorem mem_cyc {t n i : Nat} (h0 : 0 < n) : i ∈ cyc t n ↔ i < n := by
  unfold cyc
  rw [List.mem_map]
  constructor
  · rintro ⟨k, -, rfl⟩
    exact Nat.mod_lt _ h0
  · intro hi
    refine ⟨(i + n - t % n) % n, List.mem_range.2 (Nat.mod_lt _ h0), ?_⟩
    have h2 : t % n < n := Nat.mod_lt _ h0
    rw [Nat.add_mod, Nat.mod_mod]
    by_cases hle : t % n ≤ i
    · rw [show i + n - t % n = i - t % n + n by omega, Nat.add_mod_right, Nat.mod_eq_of_lt (show i - t % n < n by omega), show t % n + (i - t % n) = i by omega, Nat.mod_eq_of_lt hi]
    · rw [Nat.mod_eq_of_lt (show i + n - t % n < n by omega), show t % n + (i + n - t % n) = i + n by omega, Nat.add_mod_right, Nat.mod_eq_of_lt hi]
theorem rdy_all (L τ n) : rdy L τ n n = rlN (rB L) n τ := by
  unfold rdy rlN
  rw [List.take_of_length_le (by simp [cyc])]
theorem mem_rdy {L τ n i} (h0 : 0 < n) : i ∈ rdy L τ n n ↔ i < n ∧ (L i).s = 0 := by
  rw [rdy_all]; unfold rlN
  rw [List.mem_filter, mem_cyc h0]; simp [rB]
theorem mem_gon {L τ n i} (h0 : 0 < n) : i ∈ gon L τ n n ↔ i < n ∧ (L i).s ≠ 0 := by
  unfold gon
  rw [List.take_of_length_le (by simp [cyc]), List.mem_filter, mem_cyc h0]; simp [rB]
theorem filt_len {α : Type} (p : α → Bool) : ∀ l : List α, (l.filter p).length + (l.filter fun x => !p x).length = l.length
  | [] => rfl
  | a :: l => by
    have := filt_len p l
    by_cases h : p a = true
    · simp [h]; omega
    · simp [h]; omega
theorem rdy_gon_len (L τ n) : (rdy L τ n n).length + (gon L τ n n).length = n := by
  unfold rdy gon
  rw [filt_len]; simp [cyc]
/-- the two wards' turns: the document's lists against statuses and a turn -/
structure Rel (n : Nat) (f : Nat → Sta) (t : Int) (rl gl : List Nat) : Prop where
  turn : (t = -1 ∧ rl = [] ∧ ∀ i, i < n → (f i).s ≠ 0) ∨ ∃ τ : Nat, t = τ ∧ τ < n ∧ (f τ).s = 0 ∧ rl = rlN (rB f) n τ
  gone : ∀ i, i ∈ gl ↔ i < n ∧ (f i).s ≠ 0
  len : rl.length + gl.length = n
theorem Rel.mem {n f t rl gl} (h : Rel n f t rl gl) (h0 : 0 < n) (i : Nat) : i ∈ rl ↔ i < n ∧ (f i).s = 0 := by
  rcases h.turn with ⟨-, rfl, ha⟩ | ⟨τ, -, -, -, rfl⟩
  · simp; exact ha i
  · rw [← rdy_all, mem_rdy h0]
theorem Rel.head {n f t rl gl} (h : Rel n f t rl gl) (h5 : n < 5) : headT rl = t := by
  rcases h.turn with ⟨rfl, rfl, ha⟩ | ⟨τ, rfl, ht, hz, rfl⟩
  · rfl
  · obtain ⟨rest, t', h1, -⟩ := pass_law (rB f) h5 ht (by simp [rB, hz])
    rw [h1]; rfl
theorem Rel.cons {n f rl gl} {τ : Nat} (h : Rel n f τ rl gl) (h5 : n < 5) : τ < n ∧ (f τ).s = 0 ∧ ∃ rest, rl = τ :: rest ∧ τ ∉ rest ∧ τ ∉ gl := by
  rcases h.turn with ⟨h1, -⟩ | ⟨τ', h1, ht, hz, rfl⟩
  · omega
  · obtain rfl : τ = τ' := by omega
    obtain ⟨rest, t', h2, -⟩ := pass_law (rB f) h5 ht (by simp [rB, hz])
    have hn : (rlN (rB f) n τ).Nodup := (cyc_nodup n h5 τ ht).filter _
    rw [h2] at hn ⊢
    refine ⟨ht, hz, rest, rfl, (List.nodup_cons.1 hn).1, fun hm => ?_⟩
    exact ((h.gone τ).1 hm).2 hz
theorem Rel.neg {n f t rl gl} (h : Rel n f t rl gl) (ht : t < 0) : t = -1 ∧ rl = [] := by
  rcases h.turn with ⟨h1, h2, -⟩ | ⟨τ', h1, -⟩
  · exact ⟨h1, h2⟩
  · omega
theorem Rel.pos {n f t rl gl} (h : Rel n f t rl gl) (ht : ¬ t < 0) : ∃ τ : Nat, t = τ := ⟨t.toNat, by omega⟩
theorem Rel.pass {n f t' rest gl} {τ : Nat} (h : Rel n f τ (τ :: rest) gl) (h5 : n < 5) (hN : NextT f n τ t') : Rel n f t' (rest ++ [τ]) gl := by
  rcases h.turn with ⟨h1, -⟩ | ⟨τ', h1, ht, hz, hr⟩
  · omega
  · obtain rfl : τ = τ' := by omega
    obtain ⟨rest', t2, h2, h3, h4, h6, h7⟩ := pass_law (rB f) h5 ht (by simp [rB, hz])
    rw [← hr] at h2
    obtain rfl : rest = rest' := by injection h2
    refine ⟨.inr ?_, h.gone, by have := h.len; simp at this ⊢; omega⟩
    rcases nextT_next hN with ⟨m, hm, rfl⟩ | ⟨hm, rfl⟩
    · rw [h3] at hm; obtain rfl : t2 = m := by injection hm
      exact ⟨t2, rfl, h6, by simpa [rB] using h7, h4.symm⟩
    · rw [h3] at hm; cases hm
theorem Rel.ended {n f t' rest gl} {τ : Nat} (h : Rel n f τ (τ :: rest) gl) (h5 : n < 5) (S : Sta) (hS : S.s ≠ 0) (hN : NextT (ups f τ S) n τ t') : Rel n (ups f τ S) t' rest (gl ++ [τ]) := by
  rcases h.turn with ⟨h1, -⟩ | ⟨τ', h1, ht, hz, hr⟩
  · omega
  · obtain rfl : τ = τ' := by omega
    have hc : rB (ups f τ S) = cut1 (rB f) τ := by
      funext i
      unfold rB ups cut1
      by_cases hi : i = τ <;> simp [hi, hS]
    have hg : ∀ i, i ∈ gl ++ [τ] ↔ i < n ∧ (ups f τ S i).s ≠ 0 := fun i => by
      rw [List.mem_append, h.gone i, List.mem_singleton]
      unfold ups
      by_cases hi : i = τ
      · subst hi; simp [hS, ht]
      · simp [hi]
    have hl : rest.length + (gl ++ [τ]).length = n := by have := h.len; simp at this ⊢; omega
    have hrest : (rlN (rB f) n τ).tail = rest := by rw [← hr]; rfl
    rcases end_law (rB f) h5 ht (by simp [rB, hz]) with ⟨t2, h2, h3, h4, h6⟩ | ⟨h2, h3, h4⟩
    · rcases nextT_next hN with ⟨m, hm, rfl⟩ | ⟨hm, rfl⟩
      · rw [hc, h2] at hm; obtain rfl : t2 = m := by injection hm
        refine ⟨.inr ⟨t2, rfl, h4, ?_, ?_⟩, hg, hl⟩
        · rw [← hc] at h6; simpa [rB] using h6
        · rw [hc, h3, hrest]
      · rw [hc, h2] at hm; cases hm
    · rcases nextT_next hN with ⟨m, hm, rfl⟩ | ⟨hm, rfl⟩
      · rw [hc, h2] at hm; cases hm
      · refine ⟨.inl ⟨rfl, by rw [← hrest, h3], fun i hi => ?_⟩, hg, hl⟩
        have := h4 i hi
        rw [← hc] at this
        simpa [rB] using this
theorem Rel.kept {n f t rl gl} (h : Rel n f t rl gl) {f' : Nat → Sta} (hf : ∀ i, (f' i).s = (f i).s) : Rel n f' t rl gl := by
  have hc : rB f' = rB f := by funext i; unfold rB; rw [hf]
  refine ⟨?_, fun i => by rw [hf]; exact h.gone i, h.len⟩
  rcases h.turn with ⟨h1, h2, h3⟩ | ⟨τ, h1, h2, h3, h4⟩
  · exact .inl ⟨h1, h2, fun i hi => by rw [hf]; exact h3 i hi⟩
  · exact .inr ⟨τ, h1, h2, by rw [hf]; exact h3, by rw [hc]; exact h4⟩
theorem anyR_iff (L : Nat → Sta) : ∀ n, anyR L n = true ↔ ∃ i, i < n ∧ (L i).s = 0
  | 0 => by simp [anyR]
  | n + 1 => by
    unfold anyR
    rw [Bool.or_eq_true, anyR_iff L n]
    constructor
    · rintro (⟨i, hi, hz⟩ | h)
      · exact ⟨i, by omega, hz⟩
      · exact ⟨n, by omega, by simpa using h⟩
    · rintro ⟨i, hi, hz⟩
      by_cases hin : i = n
      · subst hin; right; simpa using hz
      · left; exact ⟨i, by omega, hz⟩
theorem headT_cases (l : List Nat) : (headT l = -1 ∧ l = []) ∨ ∃ t : Nat, headT l = t ∧ t ∈ l := by
  cases l with
  | nil => exact .inl ⟨rfl, rfl⟩
  | cons t l => exact .inr ⟨t, rfl, by simp⟩
/-- what the document accepts is what the code accepts -/
theorem setOk_head {L : Nat → Sta} {n : Nat} {T : Int} (h0 : 0 < n) (h5 : n < 5) (h1 : -1 ≤ T) (h2 : T < n) : setOk L n T ↔ (∀ i, i < n → okSta (L i)) ∧ headT (rdy L (tau T n) n n) = T := by
  unfold setOk
  refine and_congr_right fun hok => ?_
  by_cases hT : 0 ≤ T
  · obtain ⟨t, rfl⟩ : ∃ t : Nat, T = t := ⟨T.toNat, by omega⟩
    have htn : t < n := by omega
    have htau : tau (t : Int) n = t := by unfold tau; rw [if_pos hT]; simp [Nat.mod_eq_of_lt htn]
    rw [htau]
    constructor
    · rintro ⟨-, hz⟩
      obtain ⟨rest, t', h3, -⟩ := pass_law (rB L) h5 htn (by simp [rB, hz t rfl])
      rw [rdy_all, h3]; rfl
    · intro hh
      have hz : (L t).s = 0 := by
        rcases headT_cases (rdy L t n n) with ⟨h3, -⟩ | ⟨t', h3, h4⟩
        · omega
        · obtain rfl : t' = t := by omega
          exact ((mem_rdy h0).1 h4).2
      refine ⟨?_, fun t' ht' => ?_⟩
      · have : anyR L n = true := (anyR_iff L n).2 ⟨t, htn, hz⟩
        rw [this]; simp
      · obtain rfl : t = t' := by omega
        exact hz
  · obtain rfl : T = -1 := by omega
    constructor
    · rintro ⟨ha, -⟩
      rcases headT_cases (rdy L (tau (-1) n) n n) with ⟨h3, -⟩ | ⟨t', h3, h4⟩
      · exact h3
      · have := (mem_rdy h0).1 h4
        have h6 : anyR L n = true := (anyR_iff L n).2 ⟨t', this.1, this.2⟩
        rw [h6] at ha; simp at ha
    · intro hh
      refine ⟨?_, fun t ht => by omega⟩
      cases ha : anyR L n with
      | false => simp
      | true =>
        obtain ⟨i, hi, hz⟩ := (anyR_iff L n).1 ha
        have hm : i ∈ rdy L (tau (-1) n) n n := (mem_rdy h0).2 ⟨hi, hz⟩
        rcases headT_cases (rdy L (tau (-1) n) n n) with ⟨-, h4⟩ | ⟨t', h3, -⟩
        · rw [h4] at hm; cases hm
        · omega
theorem head_far {L : Nat → Sta} {n : Nat} {T : Int} (h0 : 0 < n) (h : T < -1 ∨ (n : Int) ≤ T) : headT (rdy L (tau T n) n n) ≠ T := by
  rcases headT_cases (rdy L (tau T n) n n) with ⟨h3, -⟩ | ⟨t', h3, h4⟩
  · omega
  · have := ((mem_rdy h0).1 h4).1; omega
theorem Rel.set {L : Nat → Sta} {n : Nat} {T : Int} (h0 : 0 < n) (h1 : -1 ≤ T) (h2 : T < n) (h : headT (rdy L (tau T n) n n) = T) : Rel n L T (rdy L (tau T n) n n) (gon L (tau T n) n n) := by
  refine ⟨?_, fun i => mem_gon h0, rdy_gon_len _ _ _⟩
  rcases headT_cases (rdy L (tau T n) n n) with ⟨h3, h4⟩ | ⟨t, h3, h4⟩
  · refine .inl ⟨by omega, h4, fun i hi hz => ?_⟩
    have : i ∈ rdy L (tau T n) n n := (mem_rdy h0).2 ⟨hi, hz⟩
    rw [h4] at this; cases this
  · obtain rfl : T = (t : Int) := by omega
    have hm := (mem_rdy h0).1 h4
    have htau : tau (t : Int) n = t := by unfold tau; rw [if_pos (by omega)]; simp [Nat.mod_eq_of_lt hm.1]
    exact .inr ⟨t, rfl, hm.1, hm.2, by rw [htau, rdy_all]⟩
theorem Rel.new {n : Nat} (h0 : 0 < n) (E : Nat → Nat) : Rel n (entSta E) 0 (List.range n) [] := by
  refine ⟨.inr ⟨0, rfl, h0, rfl, ?_⟩, fun i => by simp [entSta], by simp⟩
  unfold rlN cyc
  rw [List.filter_eq_self.2 (by simp [rB, entSta])]
  apply List.ext_getElem
  · simp
  · intro i h1 h2
    simp at h1 ⊢
    exact (Nat.mod_eq_of_lt h1).symm
end Go.Proofs.L
