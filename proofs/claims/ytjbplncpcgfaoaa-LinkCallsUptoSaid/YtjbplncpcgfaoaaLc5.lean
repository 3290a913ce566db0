/- Proved here: lemmas and contracts (Lc5) for the laws of this seat, for all values of the stated types; no further condition. -/
import Derived.Test.YtjbplncpcgfaoaaLc3
import Derived.Test.YtjbplncpcgfaoaaLk8
import Derived.Test.YtjbplncpcgfaoaaLk17a
open Go Go.RowKit Go.Lib Go.Maps
namespace Go.Proofs.L
attribute [local irreducible] wpT
/-! LinkCalls: what the linked file holds -/
theorem getD_L (T : List By) (i : Nat) : (T.map (·.L)).getD i [] = (T.getD i zBy).L := by
  rw [List.getD_eq_getElem?_getD, List.getD_eq_getElem?_getD, List.getElem?_map]
  cases T[i]? <;> rfl
theorem atC_T {T : List By} (h : ∀ t ∈ T, t.L.length = t.n) : ∀ i, i ≤ T.length → atC (T.map (·.L)) i = sumB (T.take i)
  | 0, _ => by rw [List.take_zero]; rfl
  | i + 1, hi => by
    obtain ⟨t, ht⟩ : ∃ t, T[i]? = some t := ⟨_, List.getElem?_eq_getElem (by omega)⟩
    rw [atC_succ, atC_T h i (by omega), sumB_take ht, getD_L, List.getD_eq_getElem?_getD, ht, ← h t (List.mem_of_getElem? ht)]
    rfl
theorem dtC_T {T : List By} (h : ∀ t ∈ T, t.L.length = t.n) : ∀ i, dtC (T.map (·.L)) i ≤ sumB (T.take i)
  | 0 => by rw [List.take_zero]; exact Nat.zero_le _
  | i + 1 => by
    have ih := dtC_T h i
    rw [dtC_succ, getD_L, List.getD_eq_getElem?_getD]
    cases ht : T[i]? with
    | none =>
      have e : T.take (i + 1) = T.take i := by rw [List.take_add_one, ht]; simp
      rw [e]
      simpa [zBy] using ih
    | some t =>
      rw [sumB_take ht]
      have := h t (List.mem_of_getElem? ht)
      simp only [Option.getD_some]
      omega
theorem zBy_n : zBy.n = 0 := rfl
theorem getD_ok {w : World} {T : List By} (h : ∀ t ∈ T, ByOk w t) (i : Nat) : ByOk w (T.getD i zBy) := by
  rw [List.getD_eq_getElem?_getD]
  cases ht : T[i]? with
  | none => exact zBy_ok w
  | some t => exact h t (List.mem_of_getElem? ht)
theorem ls_C {w : World} {S n1 n2 : Nat} {T1 T2 : List By} {v : Value} {L : List Ob} (h : LsQ w S n1 T1 T2 v L) (hL : L.length = n1) (hT1 : T1.length = n1) (hT2 : T2.length = n2) (hn : 1 ≤ n1 ∧ n1 ≤ 8 ∧ n2 ≤ n1) (hb1 : ∀ t ∈ T1, ByOk w t) (hb2 : ∀ t ∈ T2, ByOk w t)
    (hs : sumB (T1 ++ T2) ≤ 3000) (hm : ∀ t ∈ T1 ++ T2, t.n % 4 = 0) : LsC n1 (T1.map (·.L)) (T2.map (·.L)) L := by
  refine ⟨hL, fun i s hi => obQ_sh (h.sh i s hi).1 (getD_L T1 i) (getD_L T2 i) (getD_ok hb1 i).1 (getD_ok hb2 i).1, hn.1, hn.2.1, ?_, fun i => ?_⟩
  · have h1 := atC_T (fun t ht => (hb1 t ht).1) n1 (by omega)
    have h2 := dtC_T (fun t ht => (hb2 t ht).1) n1
    rw [List.take_of_length_le (by omega)] at h1 h2
    rw [sumB_app] at hs
    omega
  · have key : ∀ (T : List By), (∀ t ∈ T, ByOk w t) → (∀ t ∈ T, t.n % 4 = 0) → ((T.map (·.L)).getD i []).length % 4 = 0 := fun T hb hq => by
      rw [getD_L, (getD_ok hb i).1, List.getD_eq_getElem?_getD]
      cases ht : T[i]? with
      | none => rfl
      | some t => exact hq t (List.mem_of_getElem? ht)
    exact ⟨key T1 hb1 fun t ht => hm t (by simp [ht]), key T2 hb2 fun t ht => hm t (by simp [ht])⟩
theorem ls_ok {w : World} {S n1 : Nat} {T1 T2 : List By} {v : Value} {L : List Ob} (h : LsQ w S n1 T1 T2 v L) (hb1 : ∀ t ∈ T1, ByOk w t) (hb2 : ∀ t ∈ T2, ByOk w t) : ∀ s ∈ L, ObOk w s := fun s hs => by
  obtain ⟨i, hi⟩ := List.mem_iff_getElem?.1 hs
  exact obQ_ok (h.sh i s hi).1 (h.sh i s hi).2 (getD_ok hb1 i).1 (getD_ok hb2 i)
theorem ls_names {n : Nat} {C D : List (List Nat)} {L : List Ob} (h : LsC n C D L) : ∀ s ∈ L, ∀ r ∈ s.R, r.name.size ≤ maxLen := fun s hs r hr => by
  obtain ⟨i, hi⟩ := List.mem_iff_getElem?.1 hs
  rw [(h.sh i s hi).R] at hr
  unfold rfsC at hr
  rw [List.mem_singleton] at hr
  subst hr
  have := (nmC_ne ((i + 1) % n) (by have := Nat.mod_lt (i + 1) (show 0 < n by have := h.n1; omega); have := h.n8; omega)).2
  show (nmC ((i + 1) % n)).size ≤ maxLen
  unfold maxLen
  omega
theorem code_byt {w : World} {L : List Ob} (h : ∀ s ∈ L, ObOk w s) : ∀ x ∈ codeB L, x < 256 := fun x hx => by
  unfold codeB at hx
  rw [List.mem_flatMap] at hx
  obtain ⟨s, hs, hx⟩ := hx
  obtain ⟨j, hj⟩ := List.mem_iff_getElem?.1 hx
  exact ((h s hs).Ca j x hj).2
theorem data_byt {w : World} {L : List Ob} (h : ∀ s ∈ L, ObOk w s) : ∀ x ∈ dataB L, x < 256 := fun x hx => by
  unfold dataB at hx
  rw [List.mem_flatMap] at hx
  obtain ⟨s, hs, hx⟩ := hx
  obtain ⟨j, hj⟩ := List.mem_iff_getElem?.1 hx
  exact ((h s hs).Da j x hj).2
theorem sg_ok {w : World} {base n : Nat} {v : Value} {X : List Nat} (h : w.ownsRow base 5 1 v n (u8L X)) (hn : X.length = n) (hb : ∀ x ∈ X, x < 256) (ad sz : Nat) (rt : Int) (had : ad < 4294967296) (hsz : sz < 4294967296) :
    ∃ s : M.Sg, s.ad = ad ∧ s.sz = sz ∧ s.rt = rt ∧ s.len = n ∧ M.SgC s = segC ad v sz rt ∧ M.SgOk w s := by
  obtain ⟨p, cap, rfl, hp⟩ := own_form h
  have hbt : ∀ i, X.getD i 0 < 256 := fun i => by
    rw [List.getD_eq_getElem?_getD]
    cases hx : X[i]? with
    | none => decide
    | some x => exact hb x (List.mem_of_getElem? hx)
  by_cases h0 : 0 < n
  · obtain ⟨g, rfl, hg⟩ := hp h0
    refine ⟨⟨ad, sz, rt, some ⟨g, 0, none⟩, g, 0, n, cap, fun i => X.getD i 0⟩, rfl, rfl, rfl, rfl, rfl, ⟨had, hsz, fun _ => rfl, fun i hi => ?_, hbt⟩⟩
    obtain ⟨x, hx⟩ : ∃ x, X[i]? = some x := ⟨_, List.getElem?_eq_getElem (show i < X.length by rw [hn]; exact hi)⟩
    show w.cell? ⟨g, 0 + i, none⟩ = some (.int .u8 ((X.getD i 0 : Nat) : Int))
    rw [Nat.zero_add, List.getD_eq_getElem?_getD, hx]
    exact cellsAt h hg i _ (by unfold u8L; rw [List.getElem?_map, hx]; rfl)
  · obtain rfl : n = 0 := by omega
    exact ⟨⟨ad, sz, rt, p, 0, 0, 0, cap, fun i => X.getD i 0⟩, rfl, rfl, rfl, rfl, rfl, ⟨had, hsz, fun h => absurd h (Nat.lt_irrefl 0), fun i hi => absurd hi (Nat.not_lt_zero i), hbt⟩⟩
/-- the linked file's parts -/
structure FileC (w : World) (n base : Nat) (C : List (List Nat)) (L : List Ob) (gg gr gs : Nat) (S : List M.Sg) : Prop where
  sg : M.SgsAt w gg 0 S
  s1 : 1 ≤ S.length
  s2 : S.length ≤ 2
  s0 : ∃ s, S[0]? = some s ∧ s.ad = 256 ∧ s.sz = atC C n
  sz : ∀ s ∈ S, s.len ≤ s.sz ∧ s.ad + s.sz ≤ 10000
  rl : M.RlsAt w gr 0 (M.rlsC n C)
  sy : M.NatAt w .u32 gs 0 (0 :: (defsL L).map (·.2))
  sl : ((0 :: (defsL L).map (·.2)).length) = (defsL L).length + 1
  bg : base ≤ gg ∧ gg < w.heap.size
  br : base ≤ gr ∧ gr < w.heap.size
  bs : base ≤ gs ∧ gs < w.heap.size
theorem FileC.keep {w w' : World} {n base : Nat} {C : List (List Nat)} {L : List Ob} {gg gr gs : Nat} {S : List M.Sg} (h : FileC w n base C L gg gr gs S) (hc : Chg [] w w') : FileC w' n base C L gg gr gs S :=
  { h with sg := h.sg.keep hc, rl := h.rl.keep hc (by simp), sy := h.sy.keep hc (by simp), bg := ⟨h.bg.1, Nat.lt_of_lt_of_le h.bg.2 hc.size⟩, br := ⟨h.br.1, Nat.lt_of_lt_of_le h.br.2 hc.size⟩, bs := ⟨h.bs.1, Nat.lt_of_lt_of_le h.bs.2 hc.size⟩ }
theorem file_C {w w0 : World} {base n : Nat} {C D : List (List Nat)} {L : List Ob} {v : Array Value} (h : LsC n C D L) (hA : ∀ s ∈ L, ObOk w0 s) (hF : FileOk w base L v) :
    ∃ (ent gg cg gr cr gs cs : Nat) (S : List M.Sg), v = #[.int .u32 (ent : Int), .slice (some ⟨gg, 0, none⟩) S.length cg, .slice (some ⟨gr, 0, none⟩) n cr, .slice (some ⟨gs, 0, none⟩) ((defsL L).length + 1) cs] ∧ FileC w n base C L gg gr gs S := by
  obtain ⟨vg, vr, vs, hv, hsg, hr, hs⟩ := hF.ex
  obtain ⟨vc, vd, s1, s2, s3⟩ := hsg.ex
  have hn1 := h.n1
  have hn8 := h.n8
  have ht := h.tot
  have hcl := code_len hA L.length
  have hdl := data_len hA L.length
  rw [List.take_of_length_le (Nat.le_refl _), h.len, sum0 h n (Nat.le_refl _)] at hcl
  rw [List.take_of_length_le (Nat.le_refl _), h.len, sum1 h n (Nat.le_refl _)] at hdl
  have ha4 := atC_mono C (Nat.zero_le n)
  have a0 : atC C 0 = 0 := rfl
  have e0 : sumO L ((0 : Nat) : Int) L.length = atC C n := by rw [h.len]; exact sum0 h n (Nat.le_refl _)
  have e1 : sumO L ((1 : Nat) : Int) L.length = dtC D n := by rw [h.len]; exact sum1 h n (Nat.le_refl _)
  have e2 : sumO L ((2 : Nat) : Int) L.length = 0 := by rw [h.len]; exact sum2 h n (Nat.le_refl _)
  rw [e0, e1, e2, Nat.add_zero] at s3
  have hb1 : bsF L 1 ≤ 4000 := by
    show upN (256 + sumO L 0 L.length) ≤ 4000
    have : sumO L 0 L.length = atC C n := e0
    rw [this]
    have := upN_le (256 + atC C n)
    omega
  obtain ⟨S0, q1, q2, q3, q4, q5, q6⟩ := sg_ok s1 rfl (code_byt hA) (bsF L 0) (atC C n) 5 (by show 256 < 4294967296; decide) (by omega)
  obtain ⟨S1, r1, r2, r3, r4, r5, r6⟩ := sg_ok s2 rfl (data_byt hA) (bsF L 1) (dtC D n) 3 (by omega) (by omega)
  have q1' : S0.ad = 256 := q1
  obtain ⟨S, hS, hlS, hS0, hSm⟩ : ∃ S : List M.Sg, w.ownsRow base 47 4 vg S.length (S.flatMap M.SgC) ∧ (S.length = 1 ∨ S.length = 2) ∧ S[0]? = some S0 ∧ ∀ s ∈ S, s = S0 ∨ s = S1 := by
    by_cases h0 : 0 < dtC D n
    · rw [if_pos h0, if_pos h0, ← q5, ← r5] at s3
      exact ⟨[S0, S1], by simpa using s3, .inr rfl, rfl, fun s hs => by simpa using hs⟩
    · rw [if_neg h0, if_neg h0, ← q5, List.append_nil] at s3
      exact ⟨[S0], by simpa using s3, .inl rfl, rfl, fun s hs => .inl (by simpa using hs)⟩
  obtain ⟨pg, cg, rfl, hpg⟩ := own_form hS
  obtain ⟨gg, rfl, hgg⟩ := hpg (by omega)
  have hrl : (refsL L).length = n := by rw [refsC h]; simp
  rw [hrl] at hr
  obtain ⟨pr, cr, rfl, hpr⟩ := own_form hr
  obtain ⟨gr, rfl, hgr⟩ := hpr (by omega)
  obtain ⟨ps, cs, rfl, hps⟩ := own_form hs
  obtain ⟨gs, rfl, hgs⟩ := hps (by omega)
  refine ⟨_, gg, cg, gr, cr, gs, cs, S, hv, ⟨fun j s hj => ⟨fun i u hu => ?_, ?_⟩, by omega, by omega, ⟨S0, hS0, q1', q2⟩, fun s hs => ?_, fun j r hj => ?_, fun j x hj => ?_, by simp, hS.lt gg hgg, hr.lt gr hgr, hs.lt gs hgs⟩⟩
  · rw [Nat.zero_add]
    exact cellsAt hS hgg _ _ (flat_atC 4 M.SgC (fun _ => rfl) S j s i u hj hu)
  · rcases hSm s (List.mem_of_getElem? hj) with rfl | rfl
    · exact q6
    · exact r6
  · rcases hSm s hs with rfl | rfl
    · rw [q4, q2, q1', hcl]; omega
    · rw [r4, r2, r1, hdl]; omega
  · unfold M.rlsC at hj
    rw [List.getElem?_map] at hj
    cases hk : (List.range n)[j]? with
    | none => rw [hk] at hj; cases hj
    | some k =>
      rw [hk] at hj
      obtain rfl := Option.some.inj hj
      have hkj : k = j ∧ j < n := by
        have hl := (List.getElem?_eq_some_iff.1 hk).1
        rw [List.length_range] at hl
        rw [List.getElem?_range hl] at hk
        exact ⟨(Option.some.inj hk).symm, hl⟩
      obtain ⟨rfl, hl⟩ := hkj
      have hak := atC_mono C (show k ≤ n by omega)
      refine ⟨fun i u hu => ?_, by show 256 + atC C k < 4294967296; omega, by show k < 4294967296; omega⟩
      rw [Nat.zero_add]
      refine cellsAt hr hgr _ _ (flat_atC 4 RlC (fun _ => rfl) (refsL L) k ⟨256 + atC C k, 1, numG ((k + 1) % n), k⟩ i u ?_ hu)
      rw [refsC h, List.getElem?_map, List.getElem?_range hl]
      rfl
  · rw [Nat.zero_add]
    refine ⟨cellsAt hs hgs j _ (by unfold symC; rw [List.getElem?_map, hj]; rfl), ?_⟩
    have hy : (symC (defsL L))[j]? = some (.int .u32 (x : Int)) := by unfold symC; rw [List.getElem?_map, hj]; rfl
    have := symC_lt (err_C h) hy
    omega
end Go.Proofs.L
namespace Go.Proofs.L.M
theorem putN_lt {f g : Nat → Nat} (hf : ∀ i, f i < 256) (hg : ∀ i, g i < 256) (o k : Nat) : ∀ i, putN f o g k i < 256 := fun i => by
  unfold putN; split
  · exact hg _
  · exact hf i
theorem segB_lt {s : Sg} (h : ∀ i, s.g i < 256) : ∀ i, segB s i < 256 := fun i => by
  unfold segB; split
  · exact h i
  · decide
theorem ldF_lt (r : Nat) : ∀ (S : List Sg) (P : List Sp) (f : Nat → Nat), (∀ s ∈ S, ∀ i, s.g i < 256) → (∀ i, f i < 256) → ∀ i, ldF r S P f i < 256
  | s :: S, p :: P, f, hS, hf => ldF_lt r S P _ (fun x hx => hS x (by simp [hx])) (putN_lt hf (segB_lt (hS s (by simp))) _ _)
  | [], _, f, _, hf => by unfold ldF; exact hf
  | _ :: _, [], f, _, hf => by unfold ldF; exact hf
def spB (B : Nat) (s : Sg) : Sp := ⟨B + s.ad, s.sz, s.rt⟩
theorem fits_B {B q : Nat} (hB : B = 2147483648 + q) (hq : q < 16384) : ∀ S : List Sg, (∀ s ∈ S, s.len ≤ s.sz ∧ s.ad + s.sz ≤ 10000) → fitsL S (S.map (spB B)) = true
  | [], _ => rfl
  | s :: S, h => by
    have h1 := h s (by simp)
    show (fitS s (spB B s) && fitsL S (S.map (spB B))) = true
    rw [fits_B hB hq S (fun x hx => h x (by simp [hx])), Bool.and_true]
    unfold fitS inRam spB
    simp only [Bool.and_eq_true, decide_eq_true_eq]
    exact ⟨trivial, h1.1, by omega, by omega⟩
theorem load_B {B q : Nat} (hB : B = 2147483648 + q) (hq : q < 16384) (S : List Sg) (h : ∀ s ∈ S, s.len ≤ s.sz ∧ s.ad + s.sz ≤ 10000) (f : Nat → Nat) : loadN S (S.map (spB B)) f = (0, ldF 2147483648 S (S.map (spB B)) f) := by
  unfold loadN
  rw [if_neg (by simp), fits_B hB hq S h, if_pos rfl]
theorem fold_lt (o v : Nat → Nat) : ∀ (l : List Nat) (f : Nat → Nat), (∀ i, f i < 256) → ∀ i, l.foldl (fun g j => stN g (o j) (v j) 4) f i < 256
  | [], f, hf => hf
  | j :: l, f, hf => fold_lt o v l _ (fun i => stN_lt f hf (o j) (v j) 4 i)
end Go.Proofs.L.M
namespace Go.Proofs.L
def atsC (B : Nat) (C : List (List Nat)) (j : Nat) : List Nat := (List.range j).map fun k => B + 256 + atC C k
theorem atsC_succ (B : Nat) (C : List (List Nat)) (j : Nat) : atsC B C (j + 1) = atsC B C j ++ [B + 256 + atC C j] := by unfold atsC; rw [List.range_succ, List.map_append]; rfl
theorem atsC_get {B : Nat} {C : List (List Nat)} {j k : Nat} (h : k < j) : (atsC B C j)[k]? = some (B + 256 + atC C k) := by unfold atsC; rw [List.getElem?_map, List.getElem?_range h]; rfl
end Go.Proofs.L
