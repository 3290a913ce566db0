/- Proved here: lemmas and contracts (Rr11) for the laws of this seat, for all values of the stated types; no further condition. -/
import Derived.Test.YtjiiojbenbldlaaRr9
import Derived.Test.YtjiiojbenbldlaaFlat
import Derived.Test.YtjiiojbenbldlaaOpen
open Go Go.RowKit Go.Lib Go.ChangeShapes Go.WideShapes
namespace Go.Proofs.L
/-! the law's argument: a Job -/
theorem flat26 : flat Try.prog 10 26 = some [22, 22, 23, 24, 3] := by kernel_rfl
theorem flat24 : flat Try.prog 10 24 = some [24] := by kernel_rfl
theorem flat32 : flat Try.prog 10 32 = some [24, 3, 3, 24] := by kernel_rfl
theorem cells26 : Try.prog.cellsOf 26 = 5 := by kernel_rfl
theorem cells24 : Try.prog.cellsOf 24 = 1 := by kernel_rfl
theorem cells32 : Try.prog.cellsOf 32 = 4 := by kernel_rfl
theorem arr5 {α : Type} (cs : Array α) (h : cs.size = 5) {a b c d e : α} (h0 : cs.toList[0]? = some a) (h1 : cs.toList[1]? = some b) (h2 : cs.toList[2]? = some c) (h3 : cs.toList[3]? = some d) (h4 : cs.toList[4]? = some e) : cs = #[a, b, c, d, e] := by
  obtain ⟨l⟩ := cs
  simp only [List.size_toArray] at h
  match l, h with
  | [p, q, r, s, t], _ => simp_all
theorem choose_list {α : Type} [Inhabited α] (n : Nat) (P : Nat → α → Prop) (h : ∀ j, j < n → ∃ a, P j a) : ∃ L : List α, L.length = n ∧ ∀ (j : Nat) (a : α), L[j]? = some a → P j a := by
  have hf : ∀ j, ∃ a, j < n → P j a := fun j => by
    by_cases hj : j < n
    · obtain ⟨a, ha⟩ := h j hj; exact ⟨a, fun _ => ha⟩
    · exact ⟨default, fun h => absurd h hj⟩
  refine ⟨(List.range n).map fun j => (hf j).choose, by simp, fun j a ha => ?_⟩
  rw [List.getElem?_map] at ha
  have hj : j < n := by
    rcases Nat.lt_or_ge j n with h | h
    · exact h
    · rw [List.getElem?_eq_none (by simp; omega)] at ha; cases ha
  rw [List.getElem?_range hj] at ha
  injection ha with ha
  subst ha
  exact (hf j).choose_spec hj
instance : Inhabited Rl := ⟨⟨0, 0, 0, 0⟩⟩
section
variable {H : Type} {enc : TypeId × Value → H} {W : World} {base : Nat} {v : Value} {d : DataW H} {ps : List MemPlace}
theorem open_u32s {fuel : Nat} {u : Value} {x : DataW H × List MemPlace} (h : DataW.trod enc Try.prog W 0 (fun _ => true) true fuel 22 [u] = some x) :
    ∃ (p : Option Addr) (b o n c : Nat) (L : List Nat), u = .slice p n c ∧ (0 < n → p = some ⟨b, o, none⟩) ∧ NatAt W .u32 b o L ∧ L.length = n := by
  obtain ⟨p, b, o, n, c, rfl, hp, hc⟩ := open_cells Try.underlying22 flat24 cells24 (by decide) h
  obtain ⟨L, hl, hL⟩ := choose_list n (fun j (x : Nat) => W.cell? ⟨b, o + j, none⟩ = some (.int .u32 (x : Int)) ∧ x < 4294967296) (fun k hk => by
    obtain ⟨_, _, u0, h0, t0⟩ := hc k hk 0 24 rfl
    obtain ⟨x0, rfl, l0⟩ := leaf_u32 Try.underlying24 t0
    exact ⟨x0, by simpa using h0, l0⟩)
  exact ⟨p, b, o, n, c, L, rfl, hp, fun j x hx => hL j x hx, hl⟩
theorem open_rlas {fuel : Nat} {u : Value} {x : DataW H × List MemPlace} (h : DataW.trod enc Try.prog W 0 (fun _ => true) true fuel 23 [u] = some x) :
    ∃ (p : Option Addr) (b o n c : Nat) (L : List Rl), u = .slice p n c ∧ (0 < n → p = some ⟨b, o, none⟩) ∧ RlsAt W b o L ∧ L.length = n := by
  obtain ⟨p, b, o, n, c, rfl, hp, hc⟩ := open_cells Try.underlying23 flat32 cells32 (by decide) h
  obtain ⟨L, hl, hL⟩ := choose_list n (fun j (r : Rl) => (∀ i u, (RlC r)[i]? = some u → W.cell? ⟨b, o + j * 4 + i, none⟩ = some u) ∧ r.at_ < 4294967296 ∧ r.add < 4294967296) (fun k hk => by
    obtain ⟨_, _, u0, h0, t0⟩ := hc k hk 0 24 rfl
    obtain ⟨_, _, u1, h1, t1⟩ := hc k hk 1 3 rfl
    obtain ⟨_, _, u2, h2, t2⟩ := hc k hk 2 3 rfl
    obtain ⟨_, _, u3, h3, t3⟩ := hc k hk 3 24 rfl
    obtain ⟨x0, rfl, l0⟩ := leaf_u32 Try.underlying24 t0
    obtain ⟨x1, rfl, -⟩ := leaf_i64 Try.underlying3 t1
    obtain ⟨x2, rfl, -⟩ := leaf_i64 Try.underlying3 t2
    obtain ⟨x3, rfl, l3⟩ := leaf_u32 Try.underlying24 t3
    refine ⟨⟨x0, x1, x2, x3⟩, fun i u hu => ?_, l0, l3⟩
    match i, hu with
    | 0, hu => obtain rfl := Option.some.inj hu; exact h0
    | 1, hu => obtain rfl := Option.some.inj hu; exact h1
    | 2, hu => obtain rfl := Option.some.inj hu; exact h2
    | 3, hu => obtain rfl := Option.some.inj hu; exact h3
    | i + 4, hu => simp [RlC] at hu)
  exact ⟨p, b, o, n, c, L, rfl, hp, fun j r hr => hL j r hr, hl⟩
theorem open_job (hv : Value.okWide Try.prog W .any base 26 v) (h : DataW.Trod enc Try.prog W 0 (fun _ => true) true 26 v d ps) :
    ∃ (j : Jb) (Ws : List Nat) (Rs : List Rl) (Ys : List Nat), v = .agg (jobA j) ∧ NatAt W .u32 j.bW j.oW Ws ∧ Ws.length = j.nW ∧ (0 < j.nW → j.pW = some ⟨j.bW, j.oW, none⟩) ∧ FileOk W j.v Rs Ys ∧ j.v.e = .int .u32 0 ∧ j.v.sg = .slice none 0 0 := by
  obtain ⟨cs, rfl, hs, hl⟩ := open_aggW Try.underlying26 flat26 cells26 hv h
  obtain ⟨_, _, u0, h0, t0⟩ := hl 0 22 rfl
  obtain ⟨_, _, u1, h1, t1⟩ := hl 1 22 rfl
  obtain ⟨_, _, u2, h2, t2⟩ := hl 2 23 rfl
  obtain ⟨_, _, u3, h3, t3⟩ := hl 3 24 rfl
  obtain ⟨_, _, u4, h4, t4⟩ := hl 4 3 rfl
  obtain ⟨p0, b0, o0, n0, c0, Ws, rfl, hp0, hW, hWn⟩ := open_u32s t0
  obtain ⟨p1, b1, o1, n1, c1, Ys, rfl, hp1, hY, hYn⟩ := open_u32s t1
  obtain ⟨p2, b2, o2, n2, c2, Rs, rfl, hp2, hR, hRn⟩ := open_rlas t2
  obtain ⟨m, rfl, -⟩ := leaf_u32 Try.underlying24 t3
  obtain ⟨sp, rfl, -⟩ := leaf_i64 Try.underlying3 t4
  exact ⟨⟨p0, b0, o0, n0, c0, ⟨.int .u32 0, .slice none 0 0, p2, b2, o2, n2, c2, p1, b1, o1, n1, c1, 0, none, 0, 0, 0, 0, .nilIface⟩, m, sp⟩, Ws, Rs, Ys, by rw [arr5 cs hs h0 h1 h2 h3 h4]; rfl, hW, hWn, hp0, ⟨hR, hRn, hp2, hY, hYn, hp1⟩, rfl, rfl⟩
end
end Go.Proofs.L

open Go Go.RowKit Go.Lib
namespace Go.Proofs.L
/-! plain law of RelocMeans -/
theorem val_rs {bias : Nat} {Rs Rs' : List Rl} {Ys : List Nat} {r : Rl} (h : sizeN r.ty ≠ 0) (h24 : r.ty ≠ 24) (h25 : r.ty ≠ 25) : valN bias Rs Ys r = valN bias Rs' Ys r := by
  obtain ⟨ra, ty, sy, add⟩ := r
  simp only at h h24 h25
  unfold valN
  simp only
  rcases size_cases h with rfl | rfl | rfl | rfl | rfl | rfl | rfl | rfl | rfl | rfl | rfl | rfl
  all_goals first | exact absurd rfl h24 | exact absurd rfl h25 | rfl | simp
theorem val_near {bias : Nat} {Rs : List Rl} {Ys : List Nat} {r : Rl} (h : sizeN r.ty ≠ 0) (he : (valN bias Rs Ys r).2.2 = 0) : ((valN bias Rs Ys r).2.1 = 66 → farN (valN bias Rs Ys r).1 13 = false) ∧ ((valN bias Rs Ys r).2.1 = 74 → farN (valN bias Rs Ys r).1 21 = false) := by
  obtain ⟨ra, ty, sy, add⟩ := r
  simp only at h
  unfold valN at he ⊢
  obtain ⟨p, hp⟩ : ∃ p, p = (bias + ra) % 4294967296 := ⟨_, rfl⟩
  obtain ⟨sa, hsa⟩ : ∃ s, s = (symN Ys bias sy + add) % 4294967296 := ⟨_, rfl⟩
  simp only [← hp, ← hsa] at he ⊢
  rcases size_cases h with rfl | rfl | rfl | rfl | rfl | rfl | rfl | rfl | rfl | rfl | rfl | rfl
  · simp
  · simp
  · simp
  · simp
  · cases hfar : farN (subw sa p) 13
    · simp [hfar]
    · simp [hfar] at he
  · cases hfar : farN (subw sa p) 21
    · simp [hfar]
    · simp [hfar] at he
  · simp
  · by_cases h0 : (pairN Rs Ys bias sa).2 = false ∨ add ≠ 0
    · simp [h0]
    · simp [h0]
  · by_cases h0 : (pairN Rs Ys bias sa).2 = false ∨ add ≠ 0
    · simp [h0]
    · simp [h0]
  · simp
  · simp
  · simp
theorem means_plain {bs : Nat} {Ss : List Sp} {F g : Nat → Nat} {r : Rl} {Rs : List Rl} {Ys : List Nat} (hSs : ∀ s ∈ Ss, 2147483648 ≤ s.st ∧ s.st + s.sz ≤ 2147549184) (hF : ∀ i, F i < 256) (h24 : r.ty ≠ 24) (h25 : r.ty ≠ 25) (hb : bs < 4294967296) (hap : applyN bs [r] Ys Ss [r] F = (0, g)) :
    ∃ o L v w0, sizeN r.ty ≠ 0 ∧ (bs + r.at_) % 4294967296 = 2147483648 + o ∧ o + 4 ≤ 65536 ∧ valN bs Rs Ys r = (v, L, 0) ∧ v < 4294967296 ∧ w0 < 4294967296 ∧ leN g o 4 = newW L w0 v ∧ (∀ i, g i < 256) ∧
      ((L = 85 ∧ (r.ty = 18 ∨ r.ty = 19) ∧ o + 8 ≤ 65536 ∧ ∃ n0, n0 < 4294967296 ∧ leN g (o + 4) 4 = setI n0 v) ∨ (r.ty ≠ 18 ∧ r.ty ≠ 19 ∧ (L = 87 ∨ L = 85 ∨ L = 73 ∨ L = 83 ∨ (L = 66 ∧ farN v 13 = false) ∨ (L = 74 ∧ farN v 21 = false)))) := by
  rw [applyN_step] at hap
  cases hm : mayN bs Ss r with
  | false =>
    rw [may_false [r] Ys F hm, if_pos (show (13 : Nat) ≠ 0 by decide)] at hap
    injection hap with hap _
    cases hap
  | true =>
    obtain ⟨h1, h2, -, -⟩ := may_true hm
    have hw := within_ram hSs h2
    rw [one_ref [r] Ys F hSs hm, val_rs h1 h24 h25 (Rs' := Rs)] at hap
    have hvf := val_facts (Rs := Rs) (Ys := Ys) h1 hb
    have hvn := val_near (bias := bs) (Rs := Rs) (Ys := Ys) h1
    obtain ⟨⟨v, L, e⟩, hval⟩ : ∃ t, t = valN bs Rs Ys r := ⟨_, rfl⟩
    rw [← hval] at hap hvf hvn
    simp only at hap hvf hvn
    by_cases he : e = 0
    · subst he
      rw [if_neg (fun h => h rfl), if_neg (fun h => h rfl)] at hap
      have hg : refMem F ((bs + r.at_) % 4294967296) r.ty L v = g := by
        have := congrArg Prod.snd hap
        exact this
      have hs4 : 4 ≤ sizeN r.ty := by
        rcases size_cases h1 with h | h | h | h | h | h | h | h | h | h | h | h <;> rw [h] <;> decide
      obtain ⟨p, hp⟩ : ∃ p, p = (bs + r.at_) % 4294967296 := ⟨_, rfl⟩
      rw [← hp] at hg hw ⊢
      have hbg : ∀ i, g i < 256 := by rw [← hg]; exact refMem_lt hF p r.ty L v
      have ho : p - rb = p - 2147483648 := rfl
      refine ⟨p - rb, L, v, leN F (p - rb) 4, h1, by rw [ho]; omega, by rw [ho]; omega, hval.symm, hvf.1, leN_lt F hF _ 4, ?_, hbg, ?_⟩
      · rw [← hg]
        unfold refMem
        split
        · rw [leN_apart _ _ _ _ (by right; unfold rb; omega), leN_same _ _ _ (newW_lt _ _ _ hvf.1)]
        · rw [leN_same _ _ _ (newW_lt _ _ _ hvf.1)]
      · rcases hvf.2.2 rfl with ⟨hL, hT⟩ | ⟨t1, t2, hL⟩
        · left
          have h8 : sizeN r.ty = 8 := by rcases hT with h | h <;> rw [h] <;> decide
          refine ⟨hL, hT, by rw [ho]; omega, leN F (p - rb + 4) 4, leN_lt F hF _ 4, ?_⟩
          rw [← hg]
          unfold refMem
          rw [if_pos hT, show p + 4 - rb = p - rb + 4 by unfold rb; omega, leN_same _ _ _ (setI_lt _ _)]
        · right
          refine ⟨t1, t2, ?_⟩
          rcases hL with h | h | h | h | h | h
          · exact .inl h
          · exact .inr (.inl h)
          · exact .inr (.inr (.inl h))
          · exact .inr (.inr (.inr (.inl h)))
          · exact .inr (.inr (.inr (.inr (.inl ⟨h, (hvn rfl).1 h⟩))))
          · exact .inr (.inr (.inr (.inr (.inr ⟨h, (hvn rfl).2 h⟩))))
    · rw [if_pos he, if_pos he] at hap
      injection hap with hap _
      exact absurd hap he
theorem mU (w v : Nat) : rU (setU w (upN v)) % 4294967296 = ((upN v : Nat) : Int) := by
  have hu := upN_lt v
  have hu2 : upN v / 4096 * 4096 = upN v := by unfold upN; omega
  rw [rU_set _ _ hu, hu2, sgn32]
  generalize upN v = u at *
  split <;> omega
theorem mUI (w n v : Nat) (hv : v < 4294967296) : (rU (setU w (upN v)) + rI (setI n v)) % 4294967296 = (v : Int) := by
  have h := upper_low v w 0 hv
  rw [rI_set]
  generalize rU (setU w (upN v)) = a at *
  generalize sgn 12 (v % 4096) = b at *
  omega
theorem mI (v : Nat) (hv : v < 4294967296) : sgn 12 (v % 4096) % 4294967296 = ((v : Int) - (upN v : Nat)) % 4294967296 := by
  rw [sgn12]
  unfold upN
  split <;> omega
theorem s32_mod (v : Nat) (hv : v < 4294967296) : s32 v % 4294967296 = (v : Int) := by unfold s32; split <;> omega
end Go.Proofs.L
