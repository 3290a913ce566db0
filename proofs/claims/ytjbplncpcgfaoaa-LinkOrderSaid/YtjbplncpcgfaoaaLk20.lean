/- Proved here: lemmas and contracts (Lk20) for the laws of this seat, for all values of the stated types; no further condition. -/
import Derived.Test.YtjbplncpcgfaoaaLk19
import Derived.Laws.OwnMore
open Go Go.RowKit Go.Lib Go.Maps
namespace Go.Proofs.L
attribute [local irreducible] wpT
/-! means: do a file's symbols and relocations stand where objects' bytes do? -/
set_option maxRecDepth 100000 in
theorem num_look {w : World} {m : Nat} {P : List (ByteArray × Nat)} (h : NumAt w m P) (s : ByteArray) (hs : s.size ≤ maxLen) : (Instr.lookup 75 (.map (some m)) (.string s) false).run Try.prog w = .ok (.int .i64 (numP P s : Int)) w := by
  obtain ⟨D, h1, h2⟩ := h
  obtain ⟨c, hrun, hat, -⟩ := h1.lookup_int kd9 Try.underlying75 Try.underlying3 (ze3 w) (Go.WideMaps.keyOf_string_mk Try.underlying9 hs)
  have h4 := hat.symm.trans (h2.at_ s)
  injection h4 with h4
  injection h4 with _ h4
  exact hrun.trans (congrArg (fun q => Result.ok (Value.int .i64 q) w) h4)
theorem chgE {E : List Nat} {w w' : World} (h : Chg [] w w') : Chg E w w' := ⟨h.os, h.tape, h.output, h.size, fun k hk _ => h.block k hk (by simp)⟩
theorem ix90_0 (p1 p2 p3 : Option Addr) (n1 n2 n3 c1 c2 c3 : Nat) (w : World) : (Instr.index 90 (.agg #[.slice p1 n1 c1, .slice p2 n2 c2, .slice p3 n3 c3]) (.int .i64 0)).run Try.prog w = .ok (.slice p1 n1 c1) w := by kernel_rfl
theorem ix90_1 (p1 p2 p3 : Option Addr) (n1 n2 n3 c1 c2 c3 : Nat) (w : World) : (Instr.index 90 (.agg #[.slice p1 n1 c1, .slice p2 n2 c2, .slice p3 n3 c3]) (.int .i64 1)).run Try.prog w = .ok (.slice p2 n2 c2) w := by kernel_rfl
theorem ix90_2 (p1 p2 p3 : Option Addr) (n1 n2 n3 c1 c2 c3 : Nat) (w : World) : (Instr.index 90 (.agg #[.slice p1 n1 c1, .slice p2 n2 c2, .slice p3 n3 c3]) (.int .i64 2)).run Try.prog w = .ok (.slice p3 n3 c3) w := by kernel_rfl
theorem ix92_0 (p1 p2 : Option Addr) (n1 n2 c1 c2 : Nat) (w : World) : (Instr.index 92 (.agg #[.slice p1 n1 c1, .slice p2 n2 c2]) (.int .i64 0)).run Try.prog w = .ok (.slice p1 n1 c1) w := by kernel_rfl
theorem ix92_1 (p1 p2 : Option Addr) (n1 n2 c1 c2 : Nat) (w : World) : (Instr.index 92 (.agg #[.slice p1 n1 c1, .slice p2 n2 c2]) (.int .i64 1)).run Try.prog w = .ok (.slice p2 n2 c2) w := by kernel_rfl
theorem sym_pre {P Q : List (ByteArray × Nat)} {t : ByteArray} {x : Nat} (h : P ++ [(t, x)] <+: Q) : (symC Q)[P.length + 1]? = some (.int .u32 (x : Int)) := by
  obtain ⟨r, rfl⟩ := h
  unfold symC
  simp
theorem ref_pre {P Q : List Rl} {x : Rl} (h : P ++ [x] <+: Q) : Q[P.length]? = some x := by
  obtain ⟨r, rfl⟩ := h
  simp
theorem defs_pre {L : List Ob} {q k : Nat} {s : Ob} {d : Df} (hs : L[q]? = some s) (hd : s.F[k]? = some d) : (defsP L q ++ defsI L q s k) ++ [(d.name, bsF L d.sec.toNat + sumO L d.sec q + d.at_)] <+: defsL L := by
  rw [List.append_assoc, ← defsI_succ hd]
  refine List.IsPrefix.trans ?_ (defsP_pre L (q + 1))
  rw [defsP_succ hs]
  exact List.prefix_append_right_inj _ |>.2 (defsI_pre L q s (k + 1))
theorem refsP_pre (L : List Ob) (P : List (ByteArray × Nat)) (i : Nat) : refsP L P i <+: refsP L P L.length := by
  by_cases h : L.length ≤ i
  · have e : refsP L P i = refsP L P L.length := by unfold refsP; rw [List.take_of_length_le h, List.take_of_length_le (Nat.le_refl _)]
    rw [e]
    exact List.prefix_refl _
  · have key : ∀ k, i + k ≤ L.length → refsP L P i <+: refsP L P (i + k) := by
      intro k
      induction k with
      | zero => intro _; exact List.prefix_refl _
      | succ k ih =>
        intro hk
        rw [← Nat.add_assoc, refsP_succ (List.getElem?_eq_getElem (show i + k < L.length by omega))]
        exact (ih (by omega)).trans (List.prefix_append _ _)
    have := key (L.length - i) (by omega)
    rwa [show i + (L.length - i) = L.length by omega] at this
theorem refsI_pre (L : List Ob) (P : List (ByteArray × Nat)) (i : Nat) (s : Ob) (k : Nat) : refsI L P i s k <+: refsI L P i s s.R.length := by
  unfold refsI
  rw [List.take_of_length_le (Nat.le_refl s.R.length)]
  rw [List.map_take]
  exact List.take_prefix _ _
theorem refs_pre {L : List Ob} {q k : Nat} {s : Ob} {r : Rf} (hs : L[q]? = some s) (hr : s.R[k]? = some r) : (refsP L (defsL L) q ++ refsI L (defsL L) q s k) ++ [⟨bsF L r.sec.toNat + sumO L r.sec q + r.at_, r.ty, numP (defsL L) r.name, r.add⟩] <+: refsL L := by
  rw [List.append_assoc, ← refsI_succ hr]
  refine List.IsPrefix.trans ?_ (refsP_pre L (defsL L) (q + 1))
  rw [refsP_succ hs]
  exact List.prefix_append_right_inj _ |>.2 (refsI_pre L (defsL L) q s (k + 1))
theorem defsL_len (L : List Ob) : defsP L L.length = defsL L := rfl
theorem refsL_len (L : List Ob) : refsP L (defsL L) L.length = refsL L := rfl
/-- a section as a slice -/
def SecAt (w : World) (ps : Option Addr) (sz : Nat) (B : List Nat) : Prop := (ps = none → sz = 0) ∧ (0 < sz → ∃ g o, ps = some ⟨g, o, none⟩ ∧ ∀ (j c : Nat), B[j]? = some c → w.cell? ⟨g, o + j, none⟩ = some (.int .u8 (c : Int)) ∧ c < 256)
theorem SecAt.keep {w w' : World} {ps : Option Addr} {sz : Nat} {B : List Nat} (h : SecAt w ps sz B) (hc : Chg [] w w') : SecAt w' ps sz B :=
  ⟨h.1, fun h0 => by
    obtain ⟨g, o, h1, h2⟩ := h.2 h0
    exact ⟨g, o, h1, fun j c hj => ⟨keepc (h2 j c hj).1 hc (by simp), (h2 j c hj).2⟩⟩⟩
theorem sec_code {w : World} {s : Ob} (h : ObOk w s) : SecAt w s.pc s.nc s.C := ⟨fun e => (h.Co e).1, fun h0 => ⟨_, _, h.Cp h0, fun j c hj => h.Ca j c hj⟩⟩
theorem sec_data {w : World} {s : Ob} (h : ObOk w s) : SecAt w s.pd s.nd s.D := ⟨fun e => (h.Do e).1, fun h0 => ⟨_, _, h.Dp h0, fun j c hj => h.Da j c hj⟩⟩
theorem sec_zero {w : World} {g z : Nat} (h : w.ownsRow 0 5 1 (.slice (some ⟨g, 0, none⟩) z z) z (madeCells (Value.int .u8 0).cells (z * 1)).toList) : SecAt w (some ⟨g, 0, none⟩) z (List.replicate z 0) := by
  refine ⟨fun e => (by cases e), fun h0 => ⟨g, 0, rfl, fun j c hj => ?_⟩⟩
  have h3 := (List.mem_replicate.1 (List.mem_of_getElem? hj)).2
  subst h3
  have h5 : j < z := by
    have h6 := (List.getElem?_eq_some_iff.1 hj).1
    rw [List.length_replicate] at h6
    exact h6
  rw [Nat.zero_add]
  refine ⟨cellsAt h rfl j _ ?_, by decide⟩
  show (madeCells #[Value.int .u8 0] (z * 1)).toList[j]? = _
  rw [toList_madeCells_one, List.getElem?_replicate, if_pos (by omega)]
  rfl
theorem secB_len {w : World} {s : Ob} (h : ObOk w s) (z : Nat) (hz : z ≤ 2) : (secB s z).length = sizeO s (z : Int) := by
  match z, hz with
  | 0, _ => exact h.Cn
  | 1, _ => exact h.Dn
  | 2, _ => exact List.length_replicate
set_option maxRecDepth 100000 in
set_option maxHeartbeats 8000000 in
theorem means_any {W : World} {p : Option Addr} {b o n c base : Nat} {L : List Ob} {v : Array Value} (hS : ObsAt W b o L) (hn : L.length = n) (hp : 0 < n → p = some ⟨b, o, none⟩) (hR : ∀ s ∈ L, ∀ r ∈ s.R, r.name.size ≤ maxLen) (hcap : ∀ s ∈ L, s.nc ≤ s.cc ∧ s.nd ≤ s.cd) (hE : errL L = 0) (hF : FileOk W base L v) :
    Calls Try.prog 12 #[.slice p n c, .agg v] W fun e w' => e = .returned (.bool true) ∧ Chg [] W w' := by
  have HS : Hid (∀ V, Chg [] W V → ObsAt V b o L) := Lib.hid fun V hV => hS.keep hV
  have HN := Lib.hid hn
  have HP := Lib.hid hp
  have HRN := Lib.hid hR
  have HE := Lib.hid hE
  have HCAP := Lib.hid hcap
  have HA : Hid (∀ s ∈ L, ObOk W s) := Lib.hid fun s hs => by
    obtain ⟨i, hi⟩ := List.mem_iff_getElem?.1 hs
    exact (hS i s hi).2
  obtain ⟨vg, vr, vs, hv, hsg, hr, hs⟩ := hF.ex
  obtain ⟨vc, vd, s1, s2, s3⟩ := hsg.ex
  have hbd := err_bounds hE
  have HBD := Lib.hid hbd
  obtain ⟨C, hC⟩ : ∃ C, C = codeB L := ⟨_, rfl⟩
  obtain ⟨D, hD⟩ : ∃ C, C = dataB L := ⟨_, rfl⟩
  obtain ⟨t1, ht1⟩ : ∃ t, t = sumO L 1 L.length + sumO L 2 L.length := ⟨_, rfl⟩
  obtain ⟨b1, hb1⟩ : ∃ b, b = bsF L 1 := ⟨_, rfl⟩
  have hcl := code_len HA.out L.length
  have hdl := data_len HA.out L.length
  rw [List.take_of_length_le (Nat.le_refl _), ← hC] at hcl
  rw [List.take_of_length_le (Nat.le_refl _), ← hD] at hdl
  rw [← hC] at s1
  rw [← hD] at s2
  obtain ⟨pc, cc, rfl, -⟩ := own_form s1
  obtain ⟨pd, cd, rfl, -⟩ := own_form s2
  have s3' : W.ownsRow base 47 4 vg (if 0 < t1 then 2 else 1) (segC 256 (.slice pc C.length cc) C.length 5 ++ if 0 < t1 then segC b1 (.slice pd D.length cd) t1 3 else []) := by
    rw [ht1, hb1, hcl]; rw [hcl] at s3; exact s3
  obtain ⟨K, hK⟩ : ∃ K, K = (if 0 < t1 then 2 else 1) := ⟨_, rfl⟩
  rw [← hK] at s3'
  obtain ⟨pg, cg, rfl, hpg⟩ := own_form s3'
  obtain ⟨gg, rfl, -⟩ := hpg (by rw [hK]; split <;> decide)
  have HFV : Hid (∀ V, Chg [] W V → FileV V base b1 t1 C D gg cg K pc cc pd cd) := Lib.hid fun V hV => FileV.keep ⟨s1, s2, s3', hK, by omega, by omega, by rw [hb1]; have h3 := upN_le (256 + sumO L 0 L.length); simp only [bsF]; omega⟩ hV
  have HBY : Hid (∀ (q : Nat) (s : Ob) (z j c : Nat), L[q]? = some s → z ≤ 2 → (secB s z)[j]? = some c → byteN C D b1 t1 (bsF L z + sumO L (z : Int) q + j) = c) := Lib.hid fun q s z j c h1 h2 h3 => by
    rw [hC, hD, hb1, ht1]; exact byte_sec HA.out h1 z h2 h3
  have HB3 : Hid (b1 ≤ 300000) := Lib.hid (by rw [hb1]; have h3 := upN_le (256 + sumO L 0 L.length); simp only [bsF]; omega)
  have HSZ : Hid (∀ s ∈ L, s.nc ≤ 16384 ∧ s.nd ≤ 16384 ∧ s.z ≤ 16384) := Lib.hid fun s hs => by
    have h := hbd.2.2.1 s hs
    unfold rightB at h
    rw [Bool.and_eq_true, Bool.and_eq_true] at h
    have h2 := h.1.1
    unfold baseB at h2
    rw [decide_eq_true_eq] at h2
    exact ⟨h2.1, h2.2.1, h2.2.2.1⟩
  have HSM : Hid (∀ (k : Int) i, i ≤ 16 → sumO L k i ≤ 262144) := Lib.hid fun k i hi => Nat.le_trans (sumO_le k HSZ.out i) (by omega)
  have HBL : Hid (∀ q, bsF L q ≤ 600000) := Lib.hid fun q => bsF_le HSM.out hbd.1 q
  have hv' : v = #[Value.int .u32 ((((symC (defsL L))[numP (defsL L) startB]?).bind fun u => match u with | .int _ x => some x.toNat | _ => none).getD 0 : Int), .slice (some ⟨gg, 0, none⟩) K cg, vr, vs] := hv
  obtain ⟨x, hx⟩ : ∃ x, x = ((((symC (defsL L))[numP (defsL L) startB]?).bind fun u => match u with | .int _ x => some x.toNat | _ => none).getD 0) := ⟨_, rfl⟩
  rw [← hx] at hv'
  have HX : Hid ((symC (defsL L))[numP (defsL L) startB]? = some (.int .u32 (x : Int))) := Lib.hid (by
    obtain ⟨y, hy⟩ := symC_get (P := defsL L) rfl hbd.2.2.2.2.2.2.2.1
    rw [hx, hy]; rfl)
  obtain ⟨P, hP⟩ : ∃ P, P = defsL L := ⟨_, rfl⟩
  obtain ⟨Rs, hRs⟩ : ∃ P, P = refsL L := ⟨_, rfl⟩
  obtain ⟨N, hNN⟩ : ∃ N, N = P.length + 1 := ⟨_, rfl⟩
  obtain ⟨Mm, hMM⟩ : ∃ N, N = Rs.length := ⟨_, rfl⟩
  rw [← hP, ← hNN] at hs
  rw [← hRs, ← hMM] at hr
  obtain ⟨ps, cs, rfl, hps⟩ := own_form hs
  obtain ⟨gs, rfl, -⟩ := hps (by omega)
  obtain ⟨pr, cr, rfl, hpr⟩ := own_form hr
  have HSO : Hid (∀ (V : World), Chg [] W V → ∀ (j : Nat) (u : Value), (symC P)[j]? = some u → V.cell? ⟨gs, j, none⟩ = some u) := Lib.hid fun V hV j u hu => keepc (cellsAt hs rfl j u hu) hV (by simp)
  have HRG : Hid (0 < Mm → ∃ g, pr = some ⟨g, 0, none⟩ ∧ ∀ (V : World), Chg [] W V → ∀ (j : Nat) (r : Rl), Rs[j]? = some r → ∀ (i : Nat) (u : Value), (RlC r)[i]? = some u → V.cell? ⟨g, j * 4 + i, none⟩ = some u) := Lib.hid fun h0 => by
    obtain ⟨g, h1, h2⟩ := hpr h0
    refine ⟨g, h1, fun V hV j r hj i u hu => keepc (cellsAt hr h2 (j * 4 + i) u ?_) hV (by simp)⟩
    have h3 := flat_at 4 RlC (fun _ => rfl) Rs [] j r i u hj hu
    rwa [List.append_nil] at h3
  have HPD := Lib.hid hP
  have HRD := Lib.hid hRs
  have HNB := Lib.hid hNN
  have HMB := Lib.hid hMM
  have HPL : Hid (P.length ≤ 63) := Lib.hid (by rw [hP]; exact hbd.2.2.2.2.2.2.2.2.1)
  have HRL : Hid (Rs.length ≤ 64) := Lib.hid (by rw [hRs]; exact hbd.2.2.2.2.2.2.2.2.2)
  subst hv'
  clear hS hn hp hR hcap hE hF hsg hr hs s1 s2 s3 s3' hbd hC hD ht1 hb1 hcl hdl hK hpg hx hP hRs hNN hMM hps hpr hv
  go_enter Try.func12, Try.ntmps12
  have hmm := @run_makeMap Try.prog
  go_upto_region 3 with (fail)
  clear hmm
  obtain ⟨B0, hB0⟩ : ∃ b, b = W.heap.size := ⟨_, rfl⟩
  obtain ⟨m, hm⟩ : ∃ b, b = B0 + 1 := ⟨_, rfl⟩
  obtain ⟨w0, hw0⟩ : ∃ V, V = (W.alloc (.cells #[Value.int .u32 (x : Int), .slice (some ⟨gg, 0, none⟩) K cg, .slice pr Mm cr, .slice (some ⟨gs, 0, none⟩) N cs] 30)).alloc (.map #[] 0) := ⟨_, rfl⟩
  have hr0 : w0.row? B0 = some #[Value.int .u32 (x : Int), .slice (some ⟨gg, 0, none⟩) K cg, .slice pr Mm cr, .slice (some ⟨gs, 0, none⟩) N cs] := by
    rw [hw0, row_alloc_past _ _ _ (by rw [hB0]; simp)]; exact row_alloc_at _ _ _ _ hB0
  have hc0 : Chg [] W w0 := by rw [hw0]; exact ((Chg.refl _ _).alloc _).alloc _
  have HNU : Hid (NumAt w0 m []) := Lib.hid (by
    refine ⟨.map [], ?_, ⟨fun s => rfl, fun s => by simp [has_eq, numP], isMap_empty⟩⟩
    have h := World.ownsMap_made (H := Unit) (W.alloc (.cells #[Value.int .u32 (x : Int), .slice (some ⟨gg, 0, none⟩) K cg, .slice pr Mm cr, .slice (some ⟨gs, 0, none⟩) N cs] 30)) Try.prog 9 (plainElem Try.prog 3)
    rw [hw0, show m = (W.alloc (.cells #[Value.int .u32 (x : Int), .slice (some ⟨gg, 0, none⟩) K cg, .slice pr Mm cr, .slice (some ⟨gs, 0, none⟩) N cs] 30)).heap.size by rw [hm, hB0]; simp]
    exact h)
  have HM : Hid (m ≠ B0 ∧ W.heap.size ≤ m) := Lib.hid ⟨by omega, by omega⟩
  have HC0 := Lib.hid hc0
  have HCW : Hid (∀ V, Chg [m] w0 V → Chg [] W V) := Lib.hid fun V hV => chg_in HC0.out hV HM.out.2
  have HB0 : Hid (∀ V, Chg [m] w0 V → V.row? B0 = some #[Value.int .u32 (x : Int), .slice (some ⟨gg, 0, none⟩) K cg, .slice pr Mm cr, .slice (some ⟨gs, 0, none⟩) N cs]) := Lib.hid fun V hV => (hV.row (row_lt hr0) (by simpa using fun e : B0 = m => HM.out.1 e.symm)).trans hr0
  rw [show (W.alloc (.cells #[Value.int .u32 (x : Int), .slice (some ⟨gg, 0, none⟩) K cg, .slice pr Mm cr, .slice (some ⟨gs, 0, none⟩) N cs] 30)).alloc (.map #[] 0) = w0 from hw0.symm, ← hB0, ← hm]
  clear hB0 hm hw0 hr0 hc0
  go_wp2_with fail
  go_loopw [26, 5] (fun i sy wr => ∃ q : Nat, q ≤ n ∧ i = .int .i64 (q : Int) ∧ (∃ y : Nat, y = (defsP L q).length + 1 ∧ sy = .int .i64 (y : Int)) ∧ NumAt wr m (defsP L q) ∧ Chg [m] w0 wr) (fun i _ _ => n - (intOf i).toNat)
  case atStart => exact ⟨0, Nat.zero_le _, rfl, ⟨1, by rw [defsP_zero]; rfl, rfl⟩, by rw [defsP_zero]; exact HNU.out, Chg.refl _ _⟩
  case round =>
    obtain ⟨q, hq, rfl, ⟨y0, hy0, rfl⟩, hnu, hch⟩ := hrel
    have HY0 := Lib.hid hy0
    have HQ := Lib.hid hq
    have HNU1 := Lib.hid hnu
    have HCH := Lib.hid hch
    have HQP : Hid ((defsP L q).length ≤ 63) := Lib.hid (Nat.le_trans (defsP_pre L q).length_le (by rw [← HPD.out]; exact HPL.out))
    clear hq hnu hch hy0
    by_cases hqn : q < n
    · skip
      have HQN := Lib.hid hqn
      have dQ : (q : Int) < (n : Int) := by omega
      have HWQ := Lib.hid (wrapK q (by have h := HBD.out.1; have := HN.out; omega))
      obtain ⟨s, hs⟩ : ∃ s, L[q]? = some s := ⟨_, List.getElem?_eq_getElem (by rw [HN.out]; exact hqn)⟩
      have HS2 := Lib.hid hs
      have HRS := Lib.hid (HBD.out.2.2.1 s (List.mem_of_getElem? hs))
      have HSC := Lib.hid (HS.out _ (HCW.out _ HCH.out) q s hs).1
      have HOK : Hid (∀ V, Chg [] W V → ObOk V s) := Lib.hid fun V hV => (HS.out V hV q s hs).2
      have HFN : Hid (s.F.length = s.nf) := Lib.hid (HOK.out _ (Chg.refl _ _)).Fn
      have HFL2 : Hid (s.nf ≤ 64 ∧ s.F.all (dfB s) = true) := Lib.hid (by
        have h := HRS.out
        unfold rightB at h
        rw [Bool.and_eq_true, Bool.and_eq_true] at h
        have h2 := h.1.1
        unfold baseB at h2
        rw [decide_eq_true_eq] at h2
        exact ⟨by omega, h.1.2⟩)
      obtain rfl := HP.out (by omega)
      obtain ⟨pf, hpe⟩ : ∃ p, p = s.pf := ⟨_, rfl⟩
      have HPF : Hid (0 < s.nf → pf = some ⟨s.bf, s.of_, none⟩) := Lib.hid (by rw [hpe]; exact (HOK.out _ (Chg.refl _ _)).Fp)
      obtain ⟨Z, hZ⟩ : ∃ Z, Z = wr.alloc (.cells (obA s) 53) := ⟨_, rfl⟩
      obtain ⟨B1, hB⟩ : ∃ b, b = wr.heap.size := ⟨_, rfl⟩
      have hc2 : Chg [] wr Z := by rw [hZ]; exact (Chg.refl _ _).alloc _
      have hr2 : Z.row? B1 = some (obA s) := by rw [hZ]; exact row_alloc_at _ _ _ _ hB
      have HB1 : Hid (B1 ≠ m) := Lib.hid (by have := HNU1.out.lt; omega)
      have HCZ : Hid (Chg [m] w0 Z) := Lib.hid (HCH.out.trans (chgE hc2))
      have HNUZ := Lib.hid (HNU1.out.keep hc2 (by simp))
      have HRB : Hid (∀ V, Chg [m] Z V → V.row? B1 = some (obA s)) := Lib.hid fun V hV => (hV.row (row_lt hr2) (by simpa using HB1.out)).trans hr2
      have c3 : Z.cell? ⟨B1, 3, none⟩ = some (.slice pf s.nf s.cf) := by rw [row_cell hr2, hpe]; rfl
      have HZ2 := Lib.hid hZ
      have HB2 := Lib.hid hB
      clear hs hZ hB hc2 hr2 hqn hpe
      go_upto_region 6 with (first | (refine wpList_load_part a53 (obA s).toList rfl _ rfl rfl rfl HSC.out ?_) | (refine wpList_store_new a53 _ _ rfl rfl rfl rfl rfl rfl rfl rfl ?_))
      rw [← HZ2.out, ← HB2.out]
      clear HZ2 HB2 dQ
      go_wp2_with fail
      clear c3
      go_loopw [33, 5] (fun i sy wr => ∃ k : Nat, k ≤ s.nf ∧ i = .int .i64 (k : Int) ∧ (∃ y : Nat, y = (defsP L q ++ defsI L q s k).length + 1 ∧ sy = .int .i64 (y : Int)) ∧ NumAt wr m (defsP L q ++ defsI L q s k) ∧ Chg [m] Z wr) (fun i _ _ => s.nf - (intOf i).toNat)
      case atStart => exact ⟨0, Nat.zero_le _, rfl, ⟨y0, by rw [defsI_zero, List.append_nil]; exact HY0.out, rfl⟩, by rw [defsI_zero, List.append_nil]; exact HNUZ.out, Chg.refl _ _⟩
      case round =>
        obtain ⟨k, hk, rfl, ⟨y1, hy1, rfl⟩, hnu, hch⟩ := hrel
        have HY1 := Lib.hid hy1
        have HK := Lib.hid hk
        have HNU3 := Lib.hid hnu
        have HCH3 := Lib.hid hch
        clear hk hnu hch hy1
        by_cases hkn : k < s.nf
        · have HKN := Lib.hid hkn
          have dK : (k : Int) < (s.nf : Int) := by omega
          have HWK := Lib.hid (wrapK k (by have := HFL2.out.1; omega))
          obtain ⟨d, hd⟩ : ∃ d, s.F[k]? = some d := ⟨_, List.getElem?_eq_getElem (by rw [HFN.out]; exact hkn)⟩
          have HD := Lib.hid hd
          have HDB : Hid (d.name.size ≤ 32 ∧ 0 ≤ d.sec ∧ d.sec ≤ 2 ∧ d.at_ ≤ sizeO s d.sec) := Lib.hid (by
            have h := List.all_eq_true.1 HFL2.out.2 d (List.mem_of_getElem? hd)
            unfold dfB at h
            rw [decide_eq_true_eq] at h
            exact h.2)
          obtain ⟨z, hz⟩ : ∃ z : Nat, d.sec = (z : Int) := ⟨d.sec.toNat, by have := HDB.out; omega⟩
          have HZE := Lib.hid hz
          have HZ3 : Hid (z ≤ 2) := Lib.hid (by have := HDB.out; omega)
          have HWC : Hid (Chg [] W wr) := Lib.hid (HCW.out _ (HCZ.out.trans HCH3.out))
          have HFC := Lib.hid ((HOK.out _ HWC.out).Fa k d hd).1
          obtain rfl := HPF.out (by omega)
          obtain ⟨Z3, hZ⟩ : ∃ Z, Z = wr.alloc (.cells (DfC d).toArray 55) := ⟨_, rfl⟩
          obtain ⟨B2, hB⟩ : ∃ b, b = wr.heap.size := ⟨_, rfl⟩
          have hc2 : Chg [] wr Z3 := by rw [hZ]; exact (Chg.refl _ _).alloc _
          have hr2 : Z3.row? B2 = some (DfC d).toArray := by rw [hZ]; exact row_alloc_at _ _ _ _ hB
          have HB2m : Hid (B2 ≠ m) := Lib.hid (by have := HNU3.out.lt; omega)
          have HRB2 : Hid (∀ V, Chg [m] Z3 V → V.row? B2 = some (DfC d).toArray) := Lib.hid fun V hV => (hV.row (row_lt hr2) (by simpa using HB2m.out)).trans hr2
          have HNU4 := Lib.hid (HNU3.out.keep hc2 (by simp))
          have HC4 : Hid (Chg [m] Z Z3) := Lib.hid (HCH3.out.trans (chgE hc2))
          have n0 : Z3.cell? ⟨B2, 0, none⟩ = some (.string d.name) := by rw [row_cell hr2]; rfl
          have HZ2 := Lib.hid hZ
          have HB2' := Lib.hid hB
          obtain ⟨P2, hP⟩ : ∃ P, P = defsP L q ++ defsI L q s k := ⟨_, rfl⟩
          rw [← hP] at HNU4 HY1
          have HPP := Lib.hid hP
          obtain ⟨X, hX⟩ : ∃ X, X = bsF L z + sumO L (z : Int) q + d.at_ := ⟨_, rfl⟩
          have HPRE : Hid (P2 ++ [(d.name, X)] <+: P) := Lib.hid (by
            have h := defs_pre HS2.out hd
            rw [hz] at h
            rw [HPD.out, hP, hX]
            exact h)
          have HXX := Lib.hid hX
          have HP63 : Hid (P2.length + 1 ≤ 63) := Lib.hid (by
            have h := HPRE.out.length_le
            rw [List.length_append] at h
            exact Nat.le_trans h HPL.out)
          clear hd hZ hB hc2 hr2 hkn hz hP hX
          go_upto_region 9 with (first | (refine wpList_load_part a55 (DfC d) rfl _ rfl rfl rfl HFC.out ?_) | (refine wpList_store_new a55 _ _ rfl rfl rfl rfl rfl rfl rfl rfl ?_))
          rw [← HZ2.out, ← HB2'.out]
          clear HZ2 HB2' dK HNU3
          obtain ⟨Dm, hD1, hD2⟩ := HNU4.out
          have HOW := Lib.hid hD1
          have HMS := Lib.hid hD2
          have HKEY := Lib.hid (key9 d.name HDB.out.1)
          have hw8 : (Lit.int .i64 (y1 : Int)).wf = true := by have := HP63.out; have := HY1.out; simp [Lit.wf, IntKind.min, IntKind.max, IntKind.signed, IntKind.bits]; omega
          have HPE := Lib.hid (plainElem_int (H := Unit) Try.underlying3 hw8)
          have hnd : nodupB (P2 ++ [(d.name, X)]) = true := nodup_pre HPRE.out (by rw [HPD.out]; exact HBD.out.2.2.2.2.2.1)
          have HZ0 : Hid (numP P2 d.name = 0) := Lib.hid (by
            unfold nodupB at hnd
            rw [decide_eq_true_eq] at hnd
            exact ((nodup_app _ _ _).1 hnd).2)
          clear hD1 hD2 hw8 hnd
          go_upto_region 10 with (at_mapUpdate; refine wpList_mapUpdate_own (H := Unit) _ rfl _ _ _ 75 rfl 9 3 kd9 Try.underlying75 _ m P2.length Dm rfl HOW.out (by have := HP63.out; unfold maxLen; omega) _ _ _ rfl rfl HKEY.out _ [] HPE.out ?_; intro w1 hown1 hgrow1)
          clear n0
          have HG1 : Hid (Chg [m] Z3 w1) := Lib.hid (grown_chg hgrow1)
          have HNU5 : Hid (NumAt w1 m (P2 ++ [(d.name, X)])) := Lib.hid ⟨_, by rw [List.length_append]; exact hown1, by rw [HY1.out]; exact HMS.out.put d.name X HZ0.out⟩
          have HC5 : Hid (Chg [m] Z w1) := Lib.hid (HC4.out.trans HG1.out)
          have HW5 : Hid (Chg [] W w1) := Lib.hid (HCW.out _ (HCZ.out.trans HC5.out))
          obtain ⟨spc, hspc⟩ : ∃ x, x = s.pc := ⟨_, rfl⟩
          obtain ⟨spd, hspd⟩ : ∃ x, x = s.pd := ⟨_, rfl⟩
          have a0 : Hid (w1.drew.cell? ⟨B1, 0, none⟩ = some (.slice spc s.nc s.cc)) := Lib.hid (show w1.cell? _ = _ by rw [row_cell (HRB.out _ HC5.out), hspc]; rfl)
          have a1 : Hid (w1.drew.cell? ⟨B1, 1, none⟩ = some (.slice spd s.nd s.cd)) := Lib.hid (show w1.cell? _ = _ by rw [row_cell (HRB.out _ HC5.out), hspd]; rfl)
          have a2 : Hid (w1.drew.cell? ⟨B1, 2, none⟩ = some (.int .u32 (s.z : Int))) := Lib.hid (show w1.cell? _ = _ by rw [row_cell (HRB.out _ HC5.out)]; rfl)
          have a3 : Hid (w1.drew.cell? ⟨B2, 1, none⟩ = some (.int .i64 (z : Int))) := Lib.hid (show w1.cell? _ = _ by rw [row_cell (HRB2.out _ HG1.out), ← HZE.out]; rfl)
          have HSP : Hid (spc = s.pc ∧ spd = s.pd) := Lib.hid ⟨hspc, hspd⟩
          clear hown1 hgrow1 hspc hspd
          try simp only [Act.put, List.setIfInBounds_toArray, List.set_cons_zero, List.set_cons_succ]
          go_cut [12] (fun v wx => ∃ ps cs, v = .slice ps (sizeO s d.sec) cs ∧ sizeO s d.sec ≤ cs ∧ SecAt wx ps (sizeO s d.sec) (secB s z) ∧ Chg [] w1 wx)
          case first =>
            obtain ⟨i5, hi5, hz5, hb5, hs5⟩ := info_parts info5
            obtain ⟨w6, hmk, hown6, hgr6⟩ := run_makeSlice_full (P := Try.prog) w1.drew 0 36 5 i5 (.int .u8 0) 1 Try.underlying36 hi5 hz5 hb5 .u32 .u32 s.z (by have := HSZ.out s (List.mem_of_getElem? HS2.out); omega) (by rw [hs5]; have := HSZ.out s (List.mem_of_getElem? HS2.out); omega) (by have := HSZ.out s (List.mem_of_getElem? HS2.out); unfold maxLen; omega) (Nat.zero_le _)
            have HG6 : Hid (Chg [] w1.drew w6) := Lib.hid (grown_chg hgr6)
            have HOW6 := Lib.hid hown6
            have HW6 : Hid (Chg [] w1 w6) := Lib.hid ((Chg.refl _ _).drew.trans HG6.out)
            have HA6 : Hid (ObOk w6 s) := Lib.hid (HOK.out _ (HW5.out.trans HW6.out))
            clear hi5 hz5 hb5 hs5 hown6 hgr6
            have hz3 := HZ3.out
            rcases z with _ | _ | _ | z
            · clear hz3
              have hzz : d.sec = 0 := HZE.out
              have hix := ix90_0
              refine wp_region_C (fun w' => w'.cell? ⟨B1, 0, none⟩ = some (.slice spc s.nc s.cc) ∧ w'.cell? ⟨B1, 1, none⟩ = some (.slice spd s.nd s.cd) ∧ w'.cell? ⟨B1, 2, none⟩ = some (.int .u32 (s.z : Int)) ∧ w'.cell? ⟨B2, 1, none⟩ = some (.int .i64 0)) [(0, 0), (1, 1), (2, 0), (3, 1), (4, 0), (5, 1), (8, 0), (9, 1), (6, 2), (7, 0), (10, 0), (11, 0)] rfl (by kernel_rfl) ?hSSA ?hTSA
              case hSSA => exact ⟨a0.out, a1.out, a2.out, a3.out⟩
              refine wpT_pureD (v := ?_) (some 41) rfl rfl (by rfl) (fun w' => ?_) ?_
              rotate_left
              · (go_simp; try with_reducible rfl)
              try simp only [Act.put, List.setIfInBounds_toArray, List.set_cons_zero, List.set_cons_succ]
              refine wpT_readD (v := ?_) (some 42) rfl rfl (by rfl) (fun w' hw => ?_) ?_
              rotate_left
              · (obtain ⟨q0, q1, q2, q3⟩ := hw; go_simp; try with_reducible rfl)
              try simp only [Act.put, List.setIfInBounds_toArray, List.set_cons_zero, List.set_cons_succ]
              refine wpT_pureD (v := ?_) (some 43) rfl rfl (by rfl) (fun w' => ?_) ?_
              rotate_left
              · (go_simp; try with_reducible rfl)
              try simp only [Act.put, List.setIfInBounds_toArray, List.set_cons_zero, List.set_cons_succ]
              refine wpT_readD (v := ?_) (some 44) rfl rfl (by rfl) (fun w' hw => ?_) ?_
              rotate_left
              · (obtain ⟨q0, q1, q2, q3⟩ := hw; go_simp; try with_reducible rfl)
              try simp only [Act.put, List.setIfInBounds_toArray, List.set_cons_zero, List.set_cons_succ]
              refine wpT_pureD (v := ?_) (some 45) rfl rfl (by rfl) (fun w' => ?_) ?_
              rotate_left
              · (go_simp; try with_reducible rfl)
              try simp only [Act.put, List.setIfInBounds_toArray, List.set_cons_zero, List.set_cons_succ]
              refine wpT_readD (v := ?_) (some 46) rfl rfl (by rfl) (fun w' hw => ?_) ?_
              rotate_left
              · (obtain ⟨q0, q1, q2, q3⟩ := hw; go_simp; try with_reducible rfl)
              try simp only [Act.put, List.setIfInBounds_toArray, List.set_cons_zero, List.set_cons_succ]
              refine wpT_pureD (v := ?_) (some 49) rfl rfl (by rfl) (fun w' => ?_) ?_
              rotate_left
              · (go_simp; try with_reducible rfl)
              try simp only [Act.put, List.setIfInBounds_toArray, List.set_cons_zero, List.set_cons_succ]
              refine wpT_readD (v := ?_) (some 50) rfl rfl (by rfl) (fun w' hw => ?_) ?_
              rotate_left
              · (obtain ⟨q0, q1, q2, q3⟩ := hw; go_simp; try with_reducible rfl)
              try simp only [Act.put, List.setIfInBounds_toArray, List.set_cons_zero, List.set_cons_succ]
              refine wpT_eff rfl (by rfl) (fun K hK => ?_)
              go_wp2_with fail
              refine hK _ _ ⟨keepc a0.out HG6.out (by simp), keepc a1.out HG6.out (by simp), keepc a2.out HG6.out (by simp), keepc a3.out HG6.out (by simp)⟩ ?_
              clear hK K hmk
              try simp only [Act.put, List.setIfInBounds_toArray, List.set_cons_zero, List.set_cons_succ]
              refine wpT_pureD (v := ?_) (some 48) rfl rfl (by rfl) (fun w' => ?_) ?_
              rotate_left
              · (go_simp; try with_reducible rfl)
              try simp only [Act.put, List.setIfInBounds_toArray, List.set_cons_zero, List.set_cons_succ]
              refine wpT_pureD (v := ?_) (some 51) rfl rfl (by rfl) (fun w' => ?_) ?_
              rotate_left
              · (go_simp; try with_reducible rfl)
              try simp only [Act.put, List.setIfInBounds_toArray, List.set_cons_zero, List.set_cons_succ]
              refine wpT_pureD (v := ?_) (some 12) rfl rfl (by rfl) (fun w' => ?_) ?_
              rotate_left
              · (go_simp; try with_reducible rfl)
              try simp only [Act.put, List.setIfInBounds_toArray, List.set_cons_zero, List.set_cons_succ]
              refine wpT_end ?_
              go_wp2_with fail
              clear hix
              go_meet
              refine ⟨_, _, by rw [hzz]; rfl, by rw [hzz]; exact (HCAP.out s (List.mem_of_getElem? HS2.out)).1, by rw [hzz]; rw [HSP.out.1]; exact sec_code HA6.out, HW6.out⟩
            · clear hz3
              have hzz : d.sec = 1 := HZE.out
              have hix := ix90_1
              refine wp_region_C (fun w' => w'.cell? ⟨B1, 0, none⟩ = some (.slice spc s.nc s.cc) ∧ w'.cell? ⟨B1, 1, none⟩ = some (.slice spd s.nd s.cd) ∧ w'.cell? ⟨B1, 2, none⟩ = some (.int .u32 (s.z : Int)) ∧ w'.cell? ⟨B2, 1, none⟩ = some (.int .i64 1)) [(0, 0), (1, 1), (2, 0), (3, 1), (4, 0), (5, 1), (8, 0), (9, 1), (6, 2), (7, 0), (10, 0), (11, 0)] rfl (by kernel_rfl) ?hSSB ?hTSB
              case hSSB => exact ⟨a0.out, a1.out, a2.out, a3.out⟩
              refine wpT_pureD (v := ?_) (some 41) rfl rfl (by rfl) (fun w' => ?_) ?_
              rotate_left
              · (go_simp; try with_reducible rfl)
              try simp only [Act.put, List.setIfInBounds_toArray, List.set_cons_zero, List.set_cons_succ]
              refine wpT_readD (v := ?_) (some 42) rfl rfl (by rfl) (fun w' hw => ?_) ?_
              rotate_left
              · (obtain ⟨q0, q1, q2, q3⟩ := hw; go_simp; try with_reducible rfl)
              try simp only [Act.put, List.setIfInBounds_toArray, List.set_cons_zero, List.set_cons_succ]
              refine wpT_pureD (v := ?_) (some 43) rfl rfl (by rfl) (fun w' => ?_) ?_
              rotate_left
              · (go_simp; try with_reducible rfl)
              try simp only [Act.put, List.setIfInBounds_toArray, List.set_cons_zero, List.set_cons_succ]
              refine wpT_readD (v := ?_) (some 44) rfl rfl (by rfl) (fun w' hw => ?_) ?_
              rotate_left
              · (obtain ⟨q0, q1, q2, q3⟩ := hw; go_simp; try with_reducible rfl)
              try simp only [Act.put, List.setIfInBounds_toArray, List.set_cons_zero, List.set_cons_succ]
              refine wpT_pureD (v := ?_) (some 45) rfl rfl (by rfl) (fun w' => ?_) ?_
              rotate_left
              · (go_simp; try with_reducible rfl)
              try simp only [Act.put, List.setIfInBounds_toArray, List.set_cons_zero, List.set_cons_succ]
              refine wpT_readD (v := ?_) (some 46) rfl rfl (by rfl) (fun w' hw => ?_) ?_
              rotate_left
              · (obtain ⟨q0, q1, q2, q3⟩ := hw; go_simp; try with_reducible rfl)
              try simp only [Act.put, List.setIfInBounds_toArray, List.set_cons_zero, List.set_cons_succ]
              refine wpT_pureD (v := ?_) (some 49) rfl rfl (by rfl) (fun w' => ?_) ?_
              rotate_left
              · (go_simp; try with_reducible rfl)
              try simp only [Act.put, List.setIfInBounds_toArray, List.set_cons_zero, List.set_cons_succ]
              refine wpT_readD (v := ?_) (some 50) rfl rfl (by rfl) (fun w' hw => ?_) ?_
              rotate_left
              · (obtain ⟨q0, q1, q2, q3⟩ := hw; go_simp; try with_reducible rfl)
              try simp only [Act.put, List.setIfInBounds_toArray, List.set_cons_zero, List.set_cons_succ]
              refine wpT_eff rfl (by rfl) (fun K hK => ?_)
              go_wp2_with fail
              refine hK _ _ ⟨keepc a0.out HG6.out (by simp), keepc a1.out HG6.out (by simp), keepc a2.out HG6.out (by simp), keepc a3.out HG6.out (by simp)⟩ ?_
              clear hK K hmk
              try simp only [Act.put, List.setIfInBounds_toArray, List.set_cons_zero, List.set_cons_succ]
              refine wpT_pureD (v := ?_) (some 48) rfl rfl (by rfl) (fun w' => ?_) ?_
              rotate_left
              · (go_simp; try with_reducible rfl)
              try simp only [Act.put, List.setIfInBounds_toArray, List.set_cons_zero, List.set_cons_succ]
              refine wpT_pureD (v := ?_) (some 51) rfl rfl (by rfl) (fun w' => ?_) ?_
              rotate_left
              · (go_simp; try with_reducible rfl)
              try simp only [Act.put, List.setIfInBounds_toArray, List.set_cons_zero, List.set_cons_succ]
              refine wpT_pureD (v := ?_) (some 12) rfl rfl (by rfl) (fun w' => ?_) ?_
              rotate_left
              · (go_simp; try with_reducible rfl)
              try simp only [Act.put, List.setIfInBounds_toArray, List.set_cons_zero, List.set_cons_succ]
              refine wpT_end ?_
              go_wp2_with fail
              clear hix
              go_meet
              refine ⟨_, _, by rw [hzz]; rfl, by rw [hzz]; exact (HCAP.out s (List.mem_of_getElem? HS2.out)).2, by rw [hzz]; rw [HSP.out.2]; exact sec_data HA6.out, HW6.out⟩
            · clear hz3
              have hzz : d.sec = 2 := HZE.out
              have hix := ix90_2
              refine wp_region_C (fun w' => w'.cell? ⟨B1, 0, none⟩ = some (.slice spc s.nc s.cc) ∧ w'.cell? ⟨B1, 1, none⟩ = some (.slice spd s.nd s.cd) ∧ w'.cell? ⟨B1, 2, none⟩ = some (.int .u32 (s.z : Int)) ∧ w'.cell? ⟨B2, 1, none⟩ = some (.int .i64 2)) [(0, 0), (1, 1), (2, 0), (3, 1), (4, 0), (5, 1), (8, 0), (9, 1), (6, 2), (7, 0), (10, 0), (11, 0)] rfl (by kernel_rfl) ?hSSC ?hTSC
              case hSSC => exact ⟨a0.out, a1.out, a2.out, a3.out⟩
              refine wpT_pureD (v := ?_) (some 41) rfl rfl (by rfl) (fun w' => ?_) ?_
              rotate_left
              · (go_simp; try with_reducible rfl)
              try simp only [Act.put, List.setIfInBounds_toArray, List.set_cons_zero, List.set_cons_succ]
              refine wpT_readD (v := ?_) (some 42) rfl rfl (by rfl) (fun w' hw => ?_) ?_
              rotate_left
              · (obtain ⟨q0, q1, q2, q3⟩ := hw; go_simp; try with_reducible rfl)
              try simp only [Act.put, List.setIfInBounds_toArray, List.set_cons_zero, List.set_cons_succ]
              refine wpT_pureD (v := ?_) (some 43) rfl rfl (by rfl) (fun w' => ?_) ?_
              rotate_left
              · (go_simp; try with_reducible rfl)
              try simp only [Act.put, List.setIfInBounds_toArray, List.set_cons_zero, List.set_cons_succ]
              refine wpT_readD (v := ?_) (some 44) rfl rfl (by rfl) (fun w' hw => ?_) ?_
              rotate_left
              · (obtain ⟨q0, q1, q2, q3⟩ := hw; go_simp; try with_reducible rfl)
              try simp only [Act.put, List.setIfInBounds_toArray, List.set_cons_zero, List.set_cons_succ]
              refine wpT_pureD (v := ?_) (some 45) rfl rfl (by rfl) (fun w' => ?_) ?_
              rotate_left
              · (go_simp; try with_reducible rfl)
              try simp only [Act.put, List.setIfInBounds_toArray, List.set_cons_zero, List.set_cons_succ]
              refine wpT_readD (v := ?_) (some 46) rfl rfl (by rfl) (fun w' hw => ?_) ?_
              rotate_left
              · (obtain ⟨q0, q1, q2, q3⟩ := hw; go_simp; try with_reducible rfl)
              try simp only [Act.put, List.setIfInBounds_toArray, List.set_cons_zero, List.set_cons_succ]
              refine wpT_pureD (v := ?_) (some 49) rfl rfl (by rfl) (fun w' => ?_) ?_
              rotate_left
              · (go_simp; try with_reducible rfl)
              try simp only [Act.put, List.setIfInBounds_toArray, List.set_cons_zero, List.set_cons_succ]
              refine wpT_readD (v := ?_) (some 50) rfl rfl (by rfl) (fun w' hw => ?_) ?_
              rotate_left
              · (obtain ⟨q0, q1, q2, q3⟩ := hw; go_simp; try with_reducible rfl)
              try simp only [Act.put, List.setIfInBounds_toArray, List.set_cons_zero, List.set_cons_succ]
              refine wpT_eff rfl (by rfl) (fun K hK => ?_)
              go_wp2_with fail
              refine hK _ _ ⟨keepc a0.out HG6.out (by simp), keepc a1.out HG6.out (by simp), keepc a2.out HG6.out (by simp), keepc a3.out HG6.out (by simp)⟩ ?_
              clear hK K hmk
              try simp only [Act.put, List.setIfInBounds_toArray, List.set_cons_zero, List.set_cons_succ]
              refine wpT_pureD (v := ?_) (some 48) rfl rfl (by rfl) (fun w' => ?_) ?_
              rotate_left
              · (go_simp; try with_reducible rfl)
              try simp only [Act.put, List.setIfInBounds_toArray, List.set_cons_zero, List.set_cons_succ]
              refine wpT_pureD (v := ?_) (some 51) rfl rfl (by rfl) (fun w' => ?_) ?_
              rotate_left
              · (go_simp; try with_reducible rfl)
              try simp only [Act.put, List.setIfInBounds_toArray, List.set_cons_zero, List.set_cons_succ]
              refine wpT_pureD (v := ?_) (some 12) rfl rfl (by rfl) (fun w' => ?_) ?_
              rotate_left
              · (go_simp; try with_reducible rfl)
              try simp only [Act.put, List.setIfInBounds_toArray, List.set_cons_zero, List.set_cons_succ]
              refine wpT_end ?_
              go_wp2_with fail
              clear hix
              go_meet
              refine ⟨_, _, by rw [hzz]; rfl, by rw [hzz]; exact Nat.le_refl s.z, by rw [hzz]; exact sec_zero HOW6.out, HW6.out⟩
            · omega
          case rest =>
            obtain ⟨p12, c12, rfl, hcap, hsec, hcx⟩ := hcut
            have HSEC := Lib.hid hsec
            have HCX := Lib.hid hcx
            clear hsec hcx
            obtain ⟨sz, hsz⟩ : ∃ x, x = sizeO s d.sec := ⟨_, rfl⟩
            obtain ⟨at_, hat⟩ : ∃ x, x = d.at_ := ⟨_, rfl⟩
            rw [← hsz] at HSEC
            rw [← hsz]
            have HSQ := Lib.hid hsz
            rw [← hsz] at hcap
            have HCP := Lib.hid hcap
            have HATE := Lib.hid hat
            have HAT : Hid (at_ ≤ sz ∧ sz ≤ 16384) := Lib.hid (by
              rw [hat, hsz]
              refine ⟨HDB.out.2.2.2, ?_⟩
              obtain ⟨a, b, c⟩ := HSZ.out s (List.mem_of_getElem? HS2.out)
              unfold sizeO
              split; exact a; split; exact b; split; exact c; omega)
            have HSL : Hid ((secB s z).length = sz) := Lib.hid (by rw [hsz, HZE.out]; exact secB_len (HOK.out _ (Chg.refl _ _)) z HZ3.out)
            have HWX : Hid (Chg [] W wc) := Lib.hid (HW5.out.trans HCX.out)
            have HRX : Hid (Chg [m] Z3 wc) := Lib.hid (HG1.out.trans (chgE HCX.out))
            have b2 : wc.cell? ⟨B2, 2, none⟩ = some (.int .u32 (at_ : Int)) := by rw [row_cell (HRB2.out _ HRX.out), hat]; rfl
            have wat : wrap64 (at_ : Int) = (at_ : Int) := w64s at_ (by have := HAT.out; omega)
            have dm : (at_ : Int) ≤ (sz : Int) := by have := HAT.out; omega
            have dm2 : at_ ≤ sz := HAT.out.1
            obtain ⟨ln, hln⟩ : ∃ x, x = sz - at_ := ⟨_, rfl⟩
            have HLN := Lib.hid hln
            clear hsz hat hln hcap
            go_upto_region 11 with (fail)
            go_cut [59, 60, 61] (fun v59 v60 v61 wx => ∃ p9 c9, v59 = .slice p9 ln c9 ∧ v60 = .int .i64 (ln : Int) ∧ v61 = .int .i64 0 ∧ (0 < ln → ∃ g o9, p9 = some ⟨g, o9, none⟩ ∧ ∀ (e c : Nat), (secB s z)[at_ + e]? = some c → wx.cell? ⟨g, o9 + e, none⟩ = some (.int .u8 (c : Int)) ∧ c < 256) ∧ wx = wc)
            case first =>
              by_cases hs0 : 0 < sz
              · obtain ⟨g, o9, rfl, hcells⟩ := HSEC.out.2 hs0
                have HCE := Lib.hid hcells
                clear hcells hs0
                by_cases hce : c12 = at_
                · subst hce
                  have HL0 : Hid (ln = 0) := Lib.hid (by have := HCP.out; have := HAT.out; have := HLN.out; omega)
                  go_wp2_with fail
                  go_meet
                  refine ⟨_, _, by rw [HLN.out], by first | (rw [HLN.out]; done) | (rw [HLN.out]; rfl), rfl, fun h => ?_, rfl⟩
                  have := HL0.out
                  omega
                · go_wp2_with fail
                  go_meet
                  refine ⟨_, _, by rw [HLN.out], by first | (rw [HLN.out]; done) | (rw [HLN.out]; rfl), rfl, fun h => ⟨g, o9 + at_, rfl, fun e c h3 => ?_⟩, rfl⟩
                  rw [Nat.add_assoc]
                  exact HCE.out (at_ + e) c h3
              · obtain rfl : sz = 0 := by omega
                obtain rfl : at_ = 0 := by have := HAT.out; omega
                clear hs0
                have HL0 : Hid (ln = 0) := Lib.hid HLN.out
                rcases p12 with _ | a12
                · go_wp2_with fail
                  all_goals go_meet
                  all_goals refine ⟨_, _, by rw [HLN.out], by first | (rw [HLN.out]; done) | (rw [HLN.out]; rfl), rfl, fun h => ?_, rfl⟩
                  all_goals (first | done | (have := HL0.out; omega))
                · go_wp2_with fail
                  all_goals go_meet
                  all_goals refine ⟨_, _, by rw [HLN.out], by first | (rw [HLN.out]; done) | (rw [HLN.out]; rfl), rfl, fun h => ?_, rfl⟩
                  all_goals (first | done | (have := HL0.out; omega))
            case rest =>
              obtain ⟨p9, c9, rfl, rfl, rfl, h9, hw9⟩ := hcut
              obtain rfl := hw9
              have HC9 := Lib.hid h9
              clear h9 b2 wat dm dm2
              go_wp2_with fail
              go_loopw [61] (fun i wr => ∃ e : Nat, e ≤ ln ∧ i = .int .i64 (e : Int) ∧ Chg [] wc wr) (fun i _ => ln - (intOf i).toNat)
              case atStart => exact ⟨0, Nat.zero_le _, rfl, Chg.refl _ _⟩
              case round =>
                obtain ⟨e, he, rfl, hch⟩ := hrel
                have HEE := Lib.hid he
                have HCE := Lib.hid hch
                clear he hch
                by_cases hen : e < ln
                · have HEN := Lib.hid hen
                  have dE : (e : Int) < (ln : Int) := by omega
                  have dE2 : e < ln := hen
                  have HWE := Lib.hid (wrap1 e (by have := HLN.out; have := HAT.out; omega))
                  obtain ⟨g, o9, rfl, hcells⟩ := HC9.out (by omega)
                  obtain ⟨cc9, hcc⟩ : ∃ c, (secB s z)[at_ + e]? = some c := ⟨_, List.getElem?_eq_getElem (by have := HSL.out; have := HLN.out; have := HAT.out; omega)⟩
                  have cb : wr.cell? ⟨g, o9 + e, none⟩ = some (.int .u8 (cc9 : Int)) := keepc (hcells e cc9 hcc).1 HCE.out (by simp)
                  have HWR : Hid (Chg [] W wr.drew) := Lib.hid ((HWX.out.trans HCE.out).trans (Chg.refl _ _).drew)
                  have HMR : Hid (Chg [m] w0 wr.drew) := Lib.hid (HCZ.out.trans ((HC5.out.trans (chgE HCX.out)).trans (chgE (HCE.out.trans (Chg.refl _ _).drew))))
                  obtain ⟨A9, hA9⟩ : ∃ A, A = X + e := ⟨_, rfl⟩
                  have HBC : Hid (byteN C D b1 t1 A9 = cc9) := Lib.hid (by
                    have h := HBY.out q s z (at_ + e) cc9 HS2.out HZ3.out hcc
                    rw [hA9, HXX.out, ← HATE.out, Nat.add_assoc]
                    exact h)
                  have HXL : Hid (X ≤ 900000) := Lib.hid (by
                    have h1 := HBL.out z
                    have h2 := HSM.out (z : Int) q (by have h := HBD.out.1; have := HN.out; have := HQN.out; omega)
                    have h3 := HAT.out
                    rw [HXX.out, ← HATE.out]
                    omega)
                  have HAL : Hid (A9 < 4294967296) := Lib.hid (by have := HXL.out; have := HEN.out; have := HLN.out; have := HAT.out; omega)
                  have we : IntKind.u32.wrap (e : Int) = (e : Int) := u32id (by omega) (by have := HEN.out; have := HLN.out; have := HAT.out; omega)
                  have wxe : IntKind.u32.wrap ((X : Int) + (e : Int)) = (A9 : Int) := by rw [hA9]; exact u32add (by have := HXL.out; have := HEN.out; have := HLN.out; have := HAT.out; omega)
                  have iy2 : y1 < N := by have := HY1.out; have := HP63.out; have h := HPRE.out.length_le; rw [List.length_append] at h; have := HNB.out; simp at h; omega
                  have iy : (y1 : Int) < (N : Int) := by omega
                  have q0 : Hid (wr.drew.cell? ⟨B0, 3, none⟩ = some (.slice (some ⟨gs, 0, none⟩) N cs)) := Lib.hid (by rw [row_cell (HB0.out _ HMR.out)]; rfl)
                  have q1 : Hid (wr.drew.cell? ⟨gs, y1, none⟩ = some (.int .u32 (X : Int))) := Lib.hid (HSO.out _ HWR.out y1 _ (by rw [HY1.out]; exact sym_pre HPRE.out))
                  have q2 : Hid (∀ (j : Nat) (u : Value), [Value.int .u32 (x : Int), .slice (some ⟨gg, 0, none⟩) K cg, .slice pr Mm cr, .slice (some ⟨gs, 0, none⟩) N cs][j]? = some u → wr.drew.cell? ⟨B0, 0 + j, none⟩ = some u) := Lib.hid fun j u hu => by rw [row_cell (HB0.out _ HMR.out), Nat.zero_add]; simpa using hu
                  clear hcells hcc hA9 hen
                  go_upto_region 14 with (fail)
                  clear cb dE dE2
                  refine wp_region_C (fun w' => w'.cell? ⟨B0, 3, none⟩ = some (.slice (some ⟨gs, 0, none⟩) N cs) ∧ w'.cell? ⟨gs, y1, none⟩ = some (.int .u32 (X : Int)) ∧ ∀ (j : Nat) (u : Value), [Value.int .u32 (x : Int), .slice (some ⟨gg, 0, none⟩) K cg, .slice pr Mm cr, .slice (some ⟨gs, 0, none⟩) N cs][j]? = some u → w'.cell? ⟨B0, 0 + j, none⟩ = some u) [(0, 1), (1, 0), (2, 1), (3, 0), (4, 0), (5, 1), (6, 0), (7, 0), (8, 0), (10, 0), (9, 3), (11, 0)] rfl (by kernel_rfl) ?hSF ?hTF
                  case hSF => exact ⟨q0.out, q1.out, q2.out⟩
                  refine wpT_load_part a30 [Value.int .u32 (x : Int), .slice (some ⟨gg, 0, none⟩) K cg, .slice pr Mm cr, .slice (some ⟨gs, 0, none⟩) N cs] (some 66) _ rfl rfl rfl (by rfl) rfl rfl (fun w' hw j u hu => hw.2.2 j u hu) ?_
                  try simp only [Act.put, List.setIfInBounds_toArray, List.set_cons_zero, List.set_cons_succ]
                  try simp only [Act.put, List.setIfInBounds_toArray, List.set_cons_zero, List.set_cons_succ]
                  refine wpT_pureD (v := ?_) (some 67) rfl rfl (by rfl) (fun w' => ?_) ?_
                  rotate_left
                  · (go_simp; try with_reducible rfl)
                  try simp only [Act.put, List.setIfInBounds_toArray, List.set_cons_zero, List.set_cons_succ]
                  refine wpT_readD (v := ?_) (some 68) rfl rfl (by rfl) (fun w' hw => ?_) ?_
                  rotate_left
                  · (obtain ⟨q0, q1, q2⟩ := hw; go_simp; try with_reducible rfl)
                  try simp only [Act.put, List.setIfInBounds_toArray, List.set_cons_zero, List.set_cons_succ]
                  refine wpT_pureD (v := ?_) (some 69) rfl rfl (by rfl) (fun w' => ?_) ?_
                  rotate_left
                  · (go_simp; try with_reducible rfl)
                  try simp only [Act.put, List.setIfInBounds_toArray, List.set_cons_zero, List.set_cons_succ]
                  refine wpT_pureD (v := ?_) (some 70) rfl rfl (by rfl) (fun w' => ?_) ?_
                  rotate_left
                  · (go_simp; try with_reducible rfl)
                  try simp only [Act.put, List.setIfInBounds_toArray, List.set_cons_zero, List.set_cons_succ]
                  refine wpT_readD (v := ?_) (some 71) rfl rfl (by rfl) (fun w' hw => ?_) ?_
                  rotate_left
                  · (obtain ⟨q0, q1, q2⟩ := hw; go_simp; try with_reducible rfl)
                  try simp only [Act.put, List.setIfInBounds_toArray, List.set_cons_zero, List.set_cons_succ]
                  refine wpT_pureD (v := ?_) (some 72) rfl rfl (by rfl) (fun w' => ?_) ?_
                  rotate_left
                  · (go_simp; try with_reducible rfl)
                  try simp only [Act.put, List.setIfInBounds_toArray, List.set_cons_zero, List.set_cons_succ]
                  refine wpT_pureD (v := ?_) (some 73) rfl rfl (by rfl) (fun w' => ?_) ?_
                  rotate_left
                  · (go_simp; try with_reducible rfl)
                  try simp only [Act.put, List.setIfInBounds_toArray, List.set_cons_zero, List.set_cons_succ]
                  refine wpT_pureD (v := ?_) (some 74) rfl rfl (by rfl) (fun w' => ?_) ?_
                  rotate_left
                  · (go_simp; try with_reducible rfl)
                  try simp only [Act.put, List.setIfInBounds_toArray, List.set_cons_zero, List.set_cons_succ]
                  refine wpT_pureD (v := ?_) (some 76) rfl rfl (by rfl) (fun w' => ?_) ?_
                  rotate_left
                  · (go_simp; try with_reducible rfl)
                  try simp only [Act.put, List.setIfInBounds_toArray, List.set_cons_zero, List.set_cons_succ]
                  refine wpT_brk rfl (by rfl) (fun K hK => ?_)
                  go_wp2_with fail
                  clear we wxe iy iy2
                  refine (byteAt_any (HFV.out _ HWR.out) (x : Int) pr (some ⟨gs, 0, none⟩) Mm N cr cs A9 HAL.out).mono ?_
                  rintro e8 w8 ⟨rfl, hc8⟩
                  rw [HBC.out]
                  have HC8 := Lib.hid ((HCE.out.trans (Chg.refl _ _).drew).trans hc8)
                  clear hc8
                  go_wp2_with fail
                  refine wpT_pureD (v := ?_) (some 77) rfl rfl (by rfl) (fun w' => ?_) ?_
                  rotate_left
                  · (go_simp; try with_reducible rfl)
                  try simp only [Act.put, List.setIfInBounds_toArray, List.set_cons_zero, List.set_cons_succ]
                  refine wpT_end ?_
                  go_wp2_with fail
                  case roundEnd => exact ⟨⟨e + 1, HEN.out, by rw [HWE.out], HC8.out⟩, by rw [HWE.out]; simp only [intOf, Int.toNat_natCast]; have := HEN.out; omega⟩
                · have dE : ¬ (e : Int) < (ln : Int) := by omega
                  have HWY := Lib.hid (wrap1 y1 (by have := HY1.out; have := HP63.out; omega))
                  clear hen
                  go_wp2_with fail
                  case roundEnd =>
                    have ee : defsP L q ++ defsI L q s (k + 1) = P2 ++ [(d.name, X)] := by rw [defsI_succ HD.out, ← List.append_assoc, ← HPP.out, HXX.out, HZE.out]; rfl
                    refine ⟨⟨k + 1, HKN.out, by rw [HWK.out], ⟨y1 + 1, by rw [ee, List.length_append, HY1.out]; rfl, by rw [HWY.out]⟩, by rw [ee]; exact HNU5.out.keep (HCX.out.trans HCE.out) (by simp), HC5.out.trans (chgE (HCX.out.trans HCE.out))⟩, by rw [HWK.out]; simp only [intOf, Int.toNat_natCast]; have := HKN.out; omega⟩
        · have dK : ¬ (k : Int) < (s.nf : Int) := by omega
          obtain rfl : k = s.nf := by have := HK.out; omega
          clear hkn
          go_wp2_with fail
          case roundEnd =>
            have e : defsP L (q + 1) = defsP L q ++ defsI L q s s.nf := by rw [defsP_succ HS2.out, HFN.out]
            exact ⟨⟨q + 1, HQN.out, by rw [HWQ.out], ⟨y1, by rw [e]; exact HY1.out, rfl⟩, by rw [e]; exact HNU3.out, HCZ.out.trans HCH3.out⟩, by rw [HWQ.out]; simp only [intOf, Int.toNat_natCast]; have := HQN.out; omega⟩
    · have dQ : ¬ (q : Int) < (n : Int) := by omega
      obtain rfl : q = n := by have := HQ.out; omega
      clear hqn
      obtain ⟨w1, hw1⟩ : ∃ w, w = wr := ⟨_, rfl⟩
      subst hw1
      have HNUP : Hid (NumAt w1 m P) := Lib.hid (by have h := HNU1.out; rw [show defsP L q = P by rw [HPD.out, ← HN.out]; rfl] at h; exact h)
      have HYN : Hid (y0 = N) := Lib.hid (by rw [HY0.out, HNB.out, HPD.out, ← HN.out]; rfl)
      go_upto_block 6 with (fail)
      clear dQ
      go_wp2_with fail
      go_loopw [85, 6] (fun i rl wx => ∃ a : Nat, a ≤ q ∧ i = .int .i64 (a : Int) ∧ (∃ y : Nat, y = (refsP L P a).length ∧ rl = .int .i64 (y : Int)) ∧ Chg [] w1 wx) (fun i _ _ => q - (intOf i).toNat)
      case atStart => exact ⟨0, Nat.zero_le _, rfl, ⟨0, by rw [refsP_zero]; rfl, rfl⟩, Chg.refl _ _⟩
      case round =>
        obtain ⟨a, ha, rfl, ⟨r0, hr0, rfl⟩, hch2⟩ := hrel
        have HAQ := Lib.hid ha
        have HR0 := Lib.hid hr0
        have HCH2 := Lib.hid hch2
        clear ha hr0 hch2
        by_cases han : a < q
        · skip
          have HAN := Lib.hid han
          have dA : (a : Int) < (q : Int) := by omega
          have HWA := Lib.hid (wrapK a (by have h := HBD.out.1; have := HN.out; omega))
          obtain ⟨s, hs⟩ : ∃ s, L[a]? = some s := ⟨_, List.getElem?_eq_getElem (by rw [HN.out]; exact han)⟩
          have HS2 := Lib.hid hs
          have HRS := Lib.hid (HBD.out.2.2.1 s (List.mem_of_getElem? hs))
          have HWR0 : Hid (Chg [] W wr) := Lib.hid ((HCW.out _ HCH.out).trans HCH2.out)
          have HSC := Lib.hid (HS.out _ HWR0.out a s hs).1
          have HOK : Hid (∀ V, Chg [] W V → ObOk V s) := Lib.hid fun V hV => (HS.out V hV a s hs).2
          have HFN : Hid (s.R.length = s.nr) := Lib.hid (HOK.out _ (Chg.refl _ _)).Rn
          have HFL2 : Hid (s.nr ≤ 64 ∧ s.R.all (rfB s) = true) := Lib.hid (by
            have h := HRS.out
            unfold rightB at h
            rw [Bool.and_eq_true, Bool.and_eq_true] at h
            have h2 := h.1.1
            unfold baseB at h2
            rw [decide_eq_true_eq] at h2
            exact ⟨by omega, h.2⟩)
          obtain rfl := HP.out (by omega)
          obtain ⟨pf, hpe⟩ : ∃ p, p = s.pr := ⟨_, rfl⟩
          have HPF : Hid (0 < s.nr → pf = some ⟨s.br, s.or_, none⟩) := Lib.hid (by rw [hpe]; exact (HOK.out _ (Chg.refl _ _)).Rp)
          obtain ⟨Z, hZ⟩ : ∃ Z, Z = wr.alloc (.cells (obA s) 53) := ⟨_, rfl⟩
          obtain ⟨B1, hB⟩ : ∃ b, b = wr.heap.size := ⟨_, rfl⟩
          have hc2 : Chg [] wr Z := by rw [hZ]; exact (Chg.refl _ _).alloc _
          have hr2 : Z.row? B1 = some (obA s) := by rw [hZ]; exact row_alloc_at _ _ _ _ hB
          have HCZ : Hid (Chg [] w1 Z) := Lib.hid (HCH2.out.trans hc2)
          have HRB : Hid (∀ V, Chg [] Z V → V.row? B1 = some (obA s)) := Lib.hid fun V hV => (hV.row (row_lt hr2) (by simp)).trans hr2
          have c3 : Z.cell? ⟨B1, 4, none⟩ = some (.slice pf s.nr s.cr) := by rw [row_cell hr2, hpe]; rfl
          have HZ2 := Lib.hid hZ
          have HB2 := Lib.hid hB
          clear hs hZ hB hc2 hr2 han hpe
          go_upto_region 23 with (first | (refine wpList_load_part a53 (obA s).toList rfl _ rfl rfl rfl HSC.out ?_) | (refine wpList_store_new a53 _ _ rfl rfl rfl rfl rfl rfl rfl rfl ?_))
          rw [← HZ2.out, ← HB2.out]
          clear HZ2 HB2 dA
          go_wp2_with fail
          clear c3
          go_loopw [92, 6] (fun i rl wx => ∃ k : Nat, k ≤ s.nr ∧ i = .int .i64 (k : Int) ∧ (∃ y : Nat, y = (refsP L P a ++ refsI L P a s k).length ∧ rl = .int .i64 (y : Int)) ∧ Chg [] Z wx) (fun i _ _ => s.nr - (intOf i).toNat)
          case atStart => exact ⟨0, Nat.zero_le _, rfl, ⟨r0, by rw [refsI_zero, List.append_nil]; exact HR0.out, rfl⟩, Chg.refl _ _⟩
          case round =>
            obtain ⟨k, hk, rfl, ⟨r1, hr1, rfl⟩, hch3⟩ := hrel
            have HK := Lib.hid hk
            have HR1 := Lib.hid hr1
            have HCH3 := Lib.hid hch3
            clear hk hr1 hch3
            by_cases hkn : k < s.nr
            · have HKN := Lib.hid hkn
              have dK : (k : Int) < (s.nr : Int) := by omega
              have HWK := Lib.hid (wrapK k (by have := HFL2.out.1; omega))
              obtain ⟨d, hd⟩ : ∃ d, s.R[k]? = some d := ⟨_, List.getElem?_eq_getElem (by rw [HFN.out]; exact hkn)⟩
              have HD := Lib.hid hd
              have HDB : Hid (0 ≤ d.sec ∧ d.sec ≤ 1 ∧ d.at_ + 4 ≤ sizeO s d.sec) := Lib.hid (by
                have h := List.all_eq_true.1 HFL2.out.2 d (List.mem_of_getElem? hd)
                unfold rfB at h
                rw [decide_eq_true_eq] at h
                exact ⟨h.1, h.2.1, h.2.2.2.2.2⟩)
              have HNM := Lib.hid (HRN.out s (List.mem_of_getElem? HS2.out) d (List.mem_of_getElem? hd))
              obtain ⟨z, hz⟩ : ∃ z : Nat, d.sec = (z : Int) := ⟨d.sec.toNat, by have := HDB.out; omega⟩
              have HZE := Lib.hid hz
              have HZ3 : Hid (z ≤ 1) := Lib.hid (by have := HDB.out; omega)
              have HWC : Hid (Chg [] W wr) := Lib.hid ((HCW.out _ HCH.out).trans (HCZ.out.trans HCH3.out))
              have HFC := Lib.hid ((HOK.out _ HWC.out).Ra k d hd).1
              obtain rfl := HPF.out (by omega)
              obtain ⟨X, hX⟩ : ∃ X, X = bsF L z + sumO L (z : Int) a + d.at_ := ⟨_, rfl⟩
              obtain ⟨rl, hrl⟩ : ∃ r : Rl, r = ⟨X, d.ty, numP P d.name, d.add⟩ := ⟨_, rfl⟩
              have HRLE := Lib.hid hrl
              have HXX := Lib.hid hX
              have hpre : (refsP L P a ++ refsI L P a s k) ++ [rl] <+: Rs := by
                have h := refs_pre HS2.out hd
                rw [hz] at h
                rw [hrl, HRD.out, hX, HPD.out]
                exact h
              have HRI : Hid (Rs[r1]? = some rl) := Lib.hid (by rw [HR1.out]; exact ref_pre hpre)
              have HLE : Hid (r1 + 1 ≤ Mm) := Lib.hid (by
                have h := hpre.length_le
                rw [List.length_append] at h
                rw [HR1.out, HMB.out]
                exact h)
              obtain ⟨gr, rfl, hgr⟩ := HRG.out (by have := HLE.out; omega)
              have HGR := Lib.hid hgr
              obtain ⟨Z3, hZ⟩ : ∃ Z, Z = wr.alloc (.cells (RfC d).toArray 57) := ⟨_, rfl⟩
              obtain ⟨B2, hB⟩ : ∃ b, b = wr.heap.size := ⟨_, rfl⟩
              have hc2 : Chg [] wr Z3 := by rw [hZ]; exact (Chg.refl _ _).alloc _
              have hr2 : Z3.row? B2 = some (RfC d).toArray := by rw [hZ]; exact row_alloc_at _ _ _ _ hB
              have HRB2 : Hid (∀ V, Chg [] Z3 V → V.row? B2 = some (RfC d).toArray) := Lib.hid fun V hV => (hV.row (row_lt hr2) (by simp)).trans hr2
              have HW3 : Hid (Chg [] W Z3) := Lib.hid (HWC.out.trans hc2)
              have HM3 : Hid (Chg [m] w0 Z3) := Lib.hid (HCH.out.trans (chgE (HCZ.out.trans (HCH3.out.trans hc2))))
              have b2 : Z3.cell? ⟨B0, 2, none⟩ = some (.slice (some ⟨gr, 0, none⟩) Mm cr) := by rw [row_cell (HB0.out _ HM3.out)]; rfl
              have HLR : Hid (∀ (i : Nat) (u : Value), (RlC rl)[i]? = some u → Z3.cell? ⟨gr, r1 * 4 + i, none⟩ = some u) := Lib.hid fun i u hu => HGR.out _ HW3.out r1 rl HRI.out i u hu
              obtain ⟨Z5, hZ5⟩ : ∃ Z, Z = Z3.alloc (.cells (RlC rl).toArray 44) := ⟨_, rfl⟩
              obtain ⟨B3, hB5⟩ : ∃ b, b = Z3.heap.size := ⟨_, rfl⟩
              have hc5 : Chg [] Z3 Z5 := by rw [hZ5]; exact (Chg.refl _ _).alloc _
              have hr5 : Z5.row? B3 = some (RlC rl).toArray := by rw [hZ5]; exact row_alloc_at _ _ _ _ hB5
              have HRB3 : Hid (∀ V, Chg [] Z5 V → V.row? B3 = some (RlC rl).toArray) := Lib.hid fun V hV => (hV.row (row_lt hr5) (by simp)).trans hr5
              have HC35 := Lib.hid hc5
              have HZ5C : Hid (Chg [] Z Z5) := Lib.hid (HCH3.out.trans (hc2.trans hc5))
              have HZD : Hid (Chg [] Z Z5.drew) := Lib.hid (HZ5C.out.trans (Chg.refl _ _).drew)
              have HW5 : Hid (Chg [] W Z5) := Lib.hid (HW3.out.trans hc5)
              have ir2 : r1 < Mm := by have := HLE.out; omega
              have ir : (r1 : Int) < (Mm : Int) := by omega
              have HZ2 := Lib.hid hZ
              have HB2' := Lib.hid hB
              have HZ52 := Lib.hid hZ5
              have HB52 := Lib.hid hB5
              obtain ⟨spc, hspc⟩ : ∃ x, x = s.pc := ⟨_, rfl⟩
              obtain ⟨spd, hspd⟩ : ∃ x, x = s.pd := ⟨_, rfl⟩
              obtain ⟨at_, hat⟩ : ∃ x, x = d.at_ := ⟨_, rfl⟩
              have HATE := Lib.hid hat
              have a0 : Hid (Z5.drew.cell? ⟨B1, 0, none⟩ = some (.slice spc s.nc s.cc)) := Lib.hid (by rw [row_cell (HRB.out _ HZD.out), hspc]; rfl)
              have a1 : Hid (Z5.drew.cell? ⟨B1, 1, none⟩ = some (.slice spd s.nd s.cd)) := Lib.hid (by rw [row_cell (HRB.out _ HZD.out), hspd]; rfl)
              have a2 : Hid (Z5.drew.cell? ⟨B2, 0, none⟩ = some (.int .i64 (z : Int))) := Lib.hid (by rw [row_cell (HRB2.out _ (hc5.trans (Chg.refl _ _).drew)), ← hz]; rfl)
              have a3 : Hid (Z5.drew.cell? ⟨B2, 1, none⟩ = some (.int .u32 (at_ : Int))) := Lib.hid (by rw [row_cell (HRB2.out _ (hc5.trans (Chg.refl _ _).drew)), hat]; rfl)
              obtain ⟨sz, hsz⟩ : ∃ x, x = sizeO s d.sec := ⟨_, rfl⟩
              have HSQ := Lib.hid hsz
              have HSL : Hid ((secB s z).length = sz) := Lib.hid (by rw [hsz, hz]; exact secB_len (HOK.out _ (Chg.refl _ _)) z (by have := HZ3.out; omega))
              have HAT : Hid (at_ + 4 ≤ sz ∧ sz ≤ 16384) := Lib.hid (by
                rw [hat, hsz]
                refine ⟨HDB.out.2.2, ?_⟩
                obtain ⟨a, b, c⟩ := HSZ.out s (List.mem_of_getElem? HS2.out)
                unfold sizeO
                split; exact a; split; exact b; split; exact c; omega)
              obtain ⟨ln, hln⟩ : ∃ x, x = sz - at_ := ⟨_, rfl⟩
              have HLN := Lib.hid hln
              clear hd hkn hz hX hrl hpre hgr hZ hB hc2 hr2 hZ5 hB5 hc5 hr5 hat hsz hln
              go_upto_region 26 with (first | (refine wpList_load_part a57 (RfC d) rfl _ rfl rfl rfl HFC.out ?_) | (refine wpList_store_new a57 _ _ rfl rfl rfl rfl rfl rfl rfl rfl ?_))
              rw [← HZ2.out, ← HB2'.out]
              clear HZ2 HB2' dK
              go_upto_region 27 with (first | (refine wpList_load_part a44 (RlC rl) rfl _ rfl rfl rfl HLR.out ?_) | (refine wpList_store_new a44 _ _ rfl rfl rfl rfl rfl rfl rfl rfl ?_))
              rw [← HZ52.out, ← HB52.out]
              clear HZ52 HB52 b2 ir ir2
              go_cut [20] (fun v wx => ∃ g o9 c9, v = .slice (some ⟨g, o9, none⟩) ln c9 ∧ (∀ (e c : Nat), (secB s z)[at_ + e]? = some c → Z5.drew.cell? ⟨g, o9 + e, none⟩ = some (.int .u8 (c : Int)) ∧ c < 256) ∧ Chg [] Z5 wx)
              case first =>
                have hz3 := HZ3.out
                rcases z with _ | _ | z
                · clear hz3
                  have hzz : d.sec = 0 := HZE.out
                  have hsc : SecAt Z5.drew spc s.nc (secB s 0) := by rw [hspc]; exact sec_code (HOK.out _ (HW5.out.trans (Chg.refl _ _).drew))
                  have hcp : s.nc ≤ s.cc := (HCAP.out s (List.mem_of_getElem? HS2.out)).1
                  have hat4 : at_ + 4 ≤ s.nc := by have h := HDB.out.2.2; rw [hzz] at h; rw [HATE.out]; exact h
                  obtain ⟨g, o9, hg, hcells⟩ := hsc.2 (by omega)
                  have HGE := Lib.hid hg
                  have HCE := Lib.hid hcells
                  have hix := ix92_0
                  have dne : ¬ s.cc = at_ := by omega
                  have dm : (at_ : Int) ≤ (s.nc : Int) := by omega
                  have dm2 : at_ ≤ s.nc := by omega
                  have HLZ : Hid (s.nc = sz) := Lib.hid (by rw [HSQ.out, hzz]; rfl)
                  have E0 : Hid (Z5.drew.cell? ⟨B1, 0, none⟩ = some (.slice (some ⟨g, o9, none⟩) s.nc s.cc)) := Lib.hid (by rw [← hg]; exact a0.out)
                  clear hsc hcp hat4 hg hcells
                  refine wp_region_C (fun w' => w'.cell? ⟨B1, 0, none⟩ = some (.slice (some ⟨g, o9, none⟩) s.nc s.cc) ∧ w'.cell? ⟨B1, 1, none⟩ = some (.slice spd s.nd s.cd) ∧ w'.cell? ⟨B2, 0, none⟩ = some (.int .i64 0) ∧ w'.cell? ⟨B2, 1, none⟩ = some (.int .u32 (at_ : Int))) [(0, 0), (1, 1), (2, 0), (3, 1), (4, 0), (5, 0), (6, 1), (7, 0), (8, 0), (9, 1), (10, 0), (11, 0)] rfl (by kernel_rfl) ?hSTA ?hTTA
                  case hSTA => exact ⟨E0.out, a1.out, a2.out, a3.out⟩
                  refine wpT_pureD (v := ?_) (some 101) rfl rfl (by rfl) (fun w' => ?_) ?_
                  rotate_left
                  · (go_simp; try with_reducible rfl)
                  try simp only [Act.put, List.setIfInBounds_toArray, List.set_cons_zero, List.set_cons_succ]
                  refine wpT_readD (v := ?_) (some 102) rfl rfl (by rfl) (fun w' hw => ?_) ?_
                  rotate_left
                  · (obtain ⟨q0, q1, q2, q3⟩ := hw; go_simp; try with_reducible rfl)
                  try simp only [Act.put, List.setIfInBounds_toArray, List.set_cons_zero, List.set_cons_succ]
                  refine wpT_pureD (v := ?_) (some 103) rfl rfl (by rfl) (fun w' => ?_) ?_
                  rotate_left
                  · (go_simp; try with_reducible rfl)
                  try simp only [Act.put, List.setIfInBounds_toArray, List.set_cons_zero, List.set_cons_succ]
                  refine wpT_readD (v := ?_) (some 104) rfl rfl (by rfl) (fun w' hw => ?_) ?_
                  rotate_left
                  · (obtain ⟨q0, q1, q2, q3⟩ := hw; go_simp; try with_reducible rfl)
                  try simp only [Act.put, List.setIfInBounds_toArray, List.set_cons_zero, List.set_cons_succ]
                  refine wpT_pureD (v := ?_) (some 105) rfl rfl (by rfl) (fun w' => ?_) ?_
                  rotate_left
                  · (go_simp; try with_reducible rfl)
                  try simp only [Act.put, List.setIfInBounds_toArray, List.set_cons_zero, List.set_cons_succ]
                  refine wpT_pureD (v := ?_) (some 106) rfl rfl (by rfl) (fun w' => ?_) ?_
                  rotate_left
                  · (go_simp; try with_reducible rfl)
                  try simp only [Act.put, List.setIfInBounds_toArray, List.set_cons_zero, List.set_cons_succ]
                  refine wpT_readD (v := ?_) (some 107) rfl rfl (by rfl) (fun w' hw => ?_) ?_
                  rotate_left
                  · (obtain ⟨q0, q1, q2, q3⟩ := hw; go_simp; try with_reducible rfl)
                  try simp only [Act.put, List.setIfInBounds_toArray, List.set_cons_zero, List.set_cons_succ]
                  refine wpT_pureD (v := ?_) (some 108) rfl rfl (by rfl) (fun w' => ?_) ?_
                  rotate_left
                  · (go_simp; try with_reducible rfl)
                  try simp only [Act.put, List.setIfInBounds_toArray, List.set_cons_zero, List.set_cons_succ]
                  refine wpT_pureD (v := ?_) (some 109) rfl rfl (by rfl) (fun w' => ?_) ?_
                  rotate_left
                  · (go_simp; try with_reducible rfl)
                  try simp only [Act.put, List.setIfInBounds_toArray, List.set_cons_zero, List.set_cons_succ]
                  refine wpT_readD (v := ?_) (some 110) rfl rfl (by rfl) (fun w' hw => ?_) ?_
                  rotate_left
                  · (obtain ⟨q0, q1, q2, q3⟩ := hw; go_simp; try with_reducible rfl)
                  try simp only [Act.put, List.setIfInBounds_toArray, List.set_cons_zero, List.set_cons_succ]
                  refine wpT_pureD (v := ?_) (some 111) rfl rfl (by rfl) (fun w' => ?_) ?_
                  rotate_left
                  · (go_simp; try with_reducible rfl)
                  try simp only [Act.put, List.setIfInBounds_toArray, List.set_cons_zero, List.set_cons_succ]
                  refine wpT_pureD (v := ?_) (some 20) rfl rfl (by rfl) (fun w' => ?_) ?_
                  rotate_left
                  · (go_simp; try with_reducible rfl)
                  try simp only [Act.put, List.setIfInBounds_toArray, List.set_cons_zero, List.set_cons_succ]
                  refine wpT_end ?_
                  clear hix dne dm dm2
                  go_wp2_with fail
                  go_meet
                  refine ⟨g, o9 + at_, _, by rw [HLN.out, ← HLZ.out], fun e c h3 => ?_, (Chg.refl _ _).drew⟩
                  rw [Nat.add_assoc]
                  exact HCE.out (at_ + e) c h3
                · clear hz3
                  have hzz : d.sec = 1 := HZE.out
                  have hsc : SecAt Z5.drew spd s.nd (secB s 1) := by rw [hspd]; exact sec_data (HOK.out _ (HW5.out.trans (Chg.refl _ _).drew))
                  have hcp : s.nd ≤ s.cd := (HCAP.out s (List.mem_of_getElem? HS2.out)).2
                  have hat4 : at_ + 4 ≤ s.nd := by have h := HDB.out.2.2; rw [hzz] at h; rw [HATE.out]; exact h
                  obtain ⟨g, o9, hg, hcells⟩ := hsc.2 (by omega)
                  have HGE := Lib.hid hg
                  have HCE := Lib.hid hcells
                  have hix := ix92_1
                  have dne : ¬ s.cd = at_ := by omega
                  have dm : (at_ : Int) ≤ (s.nd : Int) := by omega
                  have dm2 : at_ ≤ s.nd := by omega
                  have HLZ : Hid (s.nd = sz) := Lib.hid (by rw [HSQ.out, hzz]; rfl)
                  have E1 : Hid (Z5.drew.cell? ⟨B1, 1, none⟩ = some (.slice (some ⟨g, o9, none⟩) s.nd s.cd)) := Lib.hid (by rw [← hg]; exact a1.out)
                  clear hsc hcp hat4 hg hcells
                  refine wp_region_C (fun w' => w'.cell? ⟨B1, 0, none⟩ = some (.slice spc s.nc s.cc) ∧ w'.cell? ⟨B1, 1, none⟩ = some (.slice (some ⟨g, o9, none⟩) s.nd s.cd) ∧ w'.cell? ⟨B2, 0, none⟩ = some (.int .i64 1) ∧ w'.cell? ⟨B2, 1, none⟩ = some (.int .u32 (at_ : Int))) [(0, 0), (1, 1), (2, 0), (3, 1), (4, 0), (5, 0), (6, 1), (7, 0), (8, 0), (9, 1), (10, 0), (11, 0)] rfl (by kernel_rfl) ?hSTB ?hTTB
                  case hSTB => exact ⟨a0.out, E1.out, a2.out, a3.out⟩
                  refine wpT_pureD (v := ?_) (some 101) rfl rfl (by rfl) (fun w' => ?_) ?_
                  rotate_left
                  · (go_simp; try with_reducible rfl)
                  try simp only [Act.put, List.setIfInBounds_toArray, List.set_cons_zero, List.set_cons_succ]
                  refine wpT_readD (v := ?_) (some 102) rfl rfl (by rfl) (fun w' hw => ?_) ?_
                  rotate_left
                  · (obtain ⟨q0, q1, q2, q3⟩ := hw; go_simp; try with_reducible rfl)
                  try simp only [Act.put, List.setIfInBounds_toArray, List.set_cons_zero, List.set_cons_succ]
                  refine wpT_pureD (v := ?_) (some 103) rfl rfl (by rfl) (fun w' => ?_) ?_
                  rotate_left
                  · (go_simp; try with_reducible rfl)
                  try simp only [Act.put, List.setIfInBounds_toArray, List.set_cons_zero, List.set_cons_succ]
                  refine wpT_readD (v := ?_) (some 104) rfl rfl (by rfl) (fun w' hw => ?_) ?_
                  rotate_left
                  · (obtain ⟨q0, q1, q2, q3⟩ := hw; go_simp; try with_reducible rfl)
                  try simp only [Act.put, List.setIfInBounds_toArray, List.set_cons_zero, List.set_cons_succ]
                  refine wpT_pureD (v := ?_) (some 105) rfl rfl (by rfl) (fun w' => ?_) ?_
                  rotate_left
                  · (go_simp; try with_reducible rfl)
                  try simp only [Act.put, List.setIfInBounds_toArray, List.set_cons_zero, List.set_cons_succ]
                  refine wpT_pureD (v := ?_) (some 106) rfl rfl (by rfl) (fun w' => ?_) ?_
                  rotate_left
                  · (go_simp; try with_reducible rfl)
                  try simp only [Act.put, List.setIfInBounds_toArray, List.set_cons_zero, List.set_cons_succ]
                  refine wpT_readD (v := ?_) (some 107) rfl rfl (by rfl) (fun w' hw => ?_) ?_
                  rotate_left
                  · (obtain ⟨q0, q1, q2, q3⟩ := hw; go_simp; try with_reducible rfl)
                  try simp only [Act.put, List.setIfInBounds_toArray, List.set_cons_zero, List.set_cons_succ]
                  refine wpT_pureD (v := ?_) (some 108) rfl rfl (by rfl) (fun w' => ?_) ?_
                  rotate_left
                  · (go_simp; try with_reducible rfl)
                  try simp only [Act.put, List.setIfInBounds_toArray, List.set_cons_zero, List.set_cons_succ]
                  refine wpT_pureD (v := ?_) (some 109) rfl rfl (by rfl) (fun w' => ?_) ?_
                  rotate_left
                  · (go_simp; try with_reducible rfl)
                  try simp only [Act.put, List.setIfInBounds_toArray, List.set_cons_zero, List.set_cons_succ]
                  refine wpT_readD (v := ?_) (some 110) rfl rfl (by rfl) (fun w' hw => ?_) ?_
                  rotate_left
                  · (obtain ⟨q0, q1, q2, q3⟩ := hw; go_simp; try with_reducible rfl)
                  try simp only [Act.put, List.setIfInBounds_toArray, List.set_cons_zero, List.set_cons_succ]
                  refine wpT_pureD (v := ?_) (some 111) rfl rfl (by rfl) (fun w' => ?_) ?_
                  rotate_left
                  · (go_simp; try with_reducible rfl)
                  try simp only [Act.put, List.setIfInBounds_toArray, List.set_cons_zero, List.set_cons_succ]
                  refine wpT_pureD (v := ?_) (some 20) rfl rfl (by rfl) (fun w' => ?_) ?_
                  rotate_left
                  · (go_simp; try with_reducible rfl)
                  try simp only [Act.put, List.setIfInBounds_toArray, List.set_cons_zero, List.set_cons_succ]
                  refine wpT_end ?_
                  clear hix dne dm dm2
                  go_wp2_with fail
                  go_meet
                  refine ⟨g, o9 + at_, _, by rw [HLN.out, ← HLZ.out], fun e c h3 => ?_, (Chg.refl _ _).drew⟩
                  rw [Nat.add_assoc]
                  exact HCE.out (at_ + e) c h3
                · omega
              case rest =>
                obtain ⟨g, o9, c9, rfl, hcells, hcx⟩ := hcut
                have HCL := Lib.hid hcells
                have HCX := Lib.hid hcx
                clear hcells hcx
                have HWX : Hid (Chg [] W wc) := Lib.hid (HW5.out.trans HCX.out)
                have HMX : Hid (Chg [m] w0 wc) := Lib.hid (HM3.out.trans (chgE (HC35.out.trans HCX.out)))
                have HSB : Hid (∀ V, Chg [] wc V → ∀ (e c : Nat), (secB s z)[at_ + e]? = some c → V.cell? ⟨g, o9 + e, none⟩ = some (.int .u8 (c : Int)) ∧ c < 256) := Lib.hid fun V hV e c hc => by
                  obtain ⟨h1, h2⟩ := HCL.out e c hc
                  have h3 : Z5.cell? ⟨g, o9 + e, none⟩ = some (.int .u8 (c : Int)) := h1
                  exact ⟨keepc h3 (HCX.out.trans hV) (by simp), h2⟩
                go_upto_block 10 with (fail)
                go_wp2_with fail
                go_loopw [114] (fun i wr => ∃ e : Nat, e ≤ ln ∧ i = .int .i64 (e : Int) ∧ Chg [] wc wr) (fun i _ => ln - (intOf i).toNat)
                case atStart => exact ⟨0, Nat.zero_le _, rfl, Chg.refl _ _⟩
                case round =>
                  obtain ⟨e, he, rfl, hch⟩ := hrel
                  have HEE := Lib.hid he
                  have HCE := Lib.hid hch
                  clear he hch
                  by_cases hen : e < ln
                  · have HEN := Lib.hid hen
                    have dE : (e : Int) < (ln : Int) := by omega
                    have dE2 : e < ln := hen
                    have HWE := Lib.hid (wrap1 e (by have := HLN.out; have := HAT.out; omega))
                    obtain ⟨cc9, hcc⟩ : ∃ c, (secB s z)[at_ + e]? = some c := ⟨_, List.getElem?_eq_getElem (by have := HSL.out; have := HLN.out; have := HAT.out; omega)⟩
                    have cb : wr.cell? ⟨g, o9 + e, none⟩ = some (.int .u8 (cc9 : Int)) := (HSB.out _ HCE.out e cc9 hcc).1
                    have HWR : Hid (Chg [] W wr) := Lib.hid (HWX.out.trans HCE.out)
                    have HMR : Hid (Chg [m] w0 wr) := Lib.hid (HMX.out.trans (chgE HCE.out))
                    obtain ⟨A9, hA9⟩ : ∃ A, A = X + e := ⟨_, rfl⟩
                    have HBC : Hid (byteN C D b1 t1 A9 = cc9) := Lib.hid (by
                      have h := HBY.out a s z (at_ + e) cc9 HS2.out (by have := HZ3.out; omega) hcc
                      rw [hA9, HXX.out, ← HATE.out, Nat.add_assoc]
                      exact h)
                    have HXL : Hid (X ≤ 900000) := Lib.hid (by
                      have h1 := HBL.out z
                      have h2 := HSM.out (z : Int) a (by have h := HBD.out.1; have := HN.out; have := HAN.out; omega)
                      have h3 := HAT.out
                      rw [HXX.out, ← HATE.out]
                      omega)
                    have HAL : Hid (A9 < 4294967296) := Lib.hid (by have := HXL.out; have := HEN.out; have := HLN.out; have := HAT.out; omega)
                    have we : IntKind.u32.wrap (e : Int) = (e : Int) := u32id (by omega) (by have := HEN.out; have := HLN.out; have := HAT.out; omega)
                    have wxe : IntKind.u32.wrap ((X : Int) + (e : Int)) = (A9 : Int) := by rw [hA9]; exact u32add (by have := HXL.out; have := HEN.out; have := HLN.out; have := HAT.out; omega)
                    have q2 : Hid (∀ (j : Nat) (u : Value), [Value.int .u32 (x : Int), .slice (some ⟨gg, 0, none⟩) K cg, .slice (some ⟨gr, 0, none⟩) Mm cr, .slice (some ⟨gs, 0, none⟩) N cs][j]? = some u → wr.cell? ⟨B0, 0 + j, none⟩ = some u) := Lib.hid fun j u hu => by rw [row_cell (HB0.out _ HMR.out), Nat.zero_add]; simpa using hu
                    have b3 : wr.cell? ⟨B3, 0, none⟩ = some (.int .u32 (X : Int)) := by rw [row_cell (HRB3.out _ (HCX.out.trans HCE.out)), HRLE.out]; rfl
                    clear hcc hA9 hen
                    go_upto_region 31 with (fail)
                    clear cb dE dE2
                    go_wp2_with (refine wpList_load_part a30 [Value.int .u32 (x : Int), .slice (some ⟨gg, 0, none⟩) K cg, .slice (some ⟨gr, 0, none⟩) Mm cr, .slice (some ⟨gs, 0, none⟩) N cs] rfl _ rfl rfl rfl q2.out ?_)
                    clear we wxe b3
                    refine (byteAt_any (HFV.out _ HWR.out) (x : Int) (some ⟨gr, 0, none⟩) (some ⟨gs, 0, none⟩) Mm N cr cs A9 HAL.out).mono ?_
                    rintro e8 w8 ⟨rfl, hc8⟩
                    rw [HBC.out]
                    have HC8 := Lib.hid (HCE.out.trans hc8)
                    clear hc8
                    go_wp2_with fail
                    case roundEnd => exact ⟨⟨e + 1, HEN.out, by rw [HWE.out], HC8.out⟩, by rw [HWE.out]; simp only [intOf, Int.toNat_natCast]; have := HEN.out; omega⟩
                  · have dE : ¬ (e : Int) < (ln : Int) := by omega
                    have HWR1 := Lib.hid (wrap1 r1 (by have := HLE.out; have := HMB.out; have := HRL.out; omega))
                    obtain ⟨nz, hnz⟩ : ∃ x, x = numP P d.name := ⟨_, rfl⟩
                    have HRW : Hid (wr.row? B3 = some (RlC ⟨X, d.ty, nz, d.add⟩).toArray) := Lib.hid (by rw [HRB3.out _ (HCX.out.trans HCE.out), HRLE.out, hnz])
                    have HLK : Hid ((Instr.lookup 75 (.map (some m)) (.string d.name) false).run Try.prog wr = .ok (.int .i64 (nz : Int)) wr) := Lib.hid (by rw [hnz]; exact num_look (HNUP.out.keep (HCZ.out.trans (HZ5C.out.trans (HCX.out.trans HCE.out))) (by simp)) d.name HNM.out)
                    have k0 := HLK.out
                    have k1 : wr.cell? ⟨B3, 1, none⟩ = some (.int .i64 d.ty) := by rw [row_cell HRW.out]; rfl
                    have k2 : wr.cell? ⟨B3, 2, none⟩ = some (.int .i64 (nz : Int)) := by rw [row_cell HRW.out]; rfl
                    have k3 : wr.cell? ⟨B3, 3, none⟩ = some (.int .u32 (d.add : Int)) := by rw [row_cell HRW.out]; rfl
                    have k4 : wr.cell? ⟨B2, 2, none⟩ = some (.int .i64 d.ty) := by rw [row_cell (HRB2.out _ (HC35.out.trans (HCX.out.trans HCE.out)))]; rfl
                    have k5 : wr.cell? ⟨B2, 3, none⟩ = some (.string d.name) := by rw [row_cell (HRB2.out _ (HC35.out.trans (HCX.out.trans HCE.out)))]; rfl
                    have k6 : wr.cell? ⟨B2, 4, none⟩ = some (.int .u32 (d.add : Int)) := by rw [row_cell (HRB2.out _ (HC35.out.trans (HCX.out.trans HCE.out)))]; rfl
                    clear hen hnz
                    go_wp2_with fail
                    case roundEnd =>
                      have ee : refsP L P a ++ refsI L P a s (k + 1) = (refsP L P a ++ refsI L P a s k) ++ [⟨bsF L d.sec.toNat + sumO L d.sec a + d.at_, d.ty, numP P d.name, d.add⟩] := by rw [refsI_succ HD.out, ← List.append_assoc]
                      refine ⟨⟨k + 1, HKN.out, by rw [HWK.out], ⟨r1 + 1, by rw [ee, List.length_append, HR1.out]; rfl, by rw [HWR1.out]⟩, HZ5C.out.trans (HCX.out.trans HCE.out)⟩, by rw [HWK.out]; simp only [intOf, Int.toNat_natCast]; have := HKN.out; omega⟩
            · have dK : ¬ (k : Int) < (s.nr : Int) := by omega
              obtain rfl : k = s.nr := by have := HK.out; omega
              clear hkn
              go_wp2_with fail
              case roundEnd =>
                have e : refsP L P (a + 1) = refsP L P a ++ refsI L P a s s.nr := by rw [refsP_succ HS2.out, HFN.out]
                exact ⟨⟨a + 1, HAN.out, by rw [HWA.out], ⟨r1, by rw [e]; exact HR1.out, rfl⟩, HCZ.out.trans HCH3.out⟩, by rw [HWA.out]; simp only [intOf, Int.toNat_natCast]; have := HAN.out; omega⟩
        · have dA : ¬ (a : Int) < (q : Int) := by omega
          obtain rfl : a = q := by have := HAQ.out; omega
          have HRR : Hid (r0 = Mm) := Lib.hid (by rw [HR0.out, HMB.out, HRD.out, HPD.out, ← HN.out]; rfl)
          obtain rfl := HRR.out
          obtain rfl := HYN.out
          clear han
          go_upto_region 39 with (fail)
          clear dA
          obtain ⟨nz, hnz⟩ : ∃ x, x = numP P startB := ⟨_, rfl⟩
          have HWR : Hid (Chg [] W wr.drew) := Lib.hid (((HCW.out _ HCH.out).trans HCH2.out).trans (Chg.refl _ _).drew)
          have HMR : Hid (Chg [m] w0 wr.drew) := Lib.hid (HCH.out.trans (chgE (HCH2.out.trans (Chg.refl _ _).drew)))
          have s0 : Hid (wr.drew.cell? ⟨B0, 0, none⟩ = some (.int .u32 (x : Int))) := Lib.hid (by rw [row_cell (HB0.out _ HMR.out)]; rfl)
          have s2 : Hid (wr.drew.cell? ⟨B0, 2, none⟩ = some (.slice pr r0 cr)) := Lib.hid (by rw [row_cell (HB0.out _ HMR.out)]; rfl)
          have s3 : Hid (wr.drew.cell? ⟨B0, 3, none⟩ = some (.slice (some ⟨gs, 0, none⟩) y0 cs)) := Lib.hid (by rw [row_cell (HB0.out _ HMR.out)]; rfl)
          have s4 : Hid ((Instr.lookup 75 (.map (some m)) (.string ⟨#[115, 116, 97, 114, 116]⟩) false).run Try.prog wr.drew = .ok (.int .i64 (nz : Int)) wr.drew) := Lib.hid (by rw [hnz]; exact num_look (HNUP.out.keep (HCH2.out.trans (Chg.refl _ _).drew) (by simp)) startB (by decide))
          have s5 : Hid (wr.drew.cell? ⟨gs, nz, none⟩ = some (.int .u32 (x : Int))) := Lib.hid (HSO.out _ HWR.out nz _ (by rw [hnz, HPD.out]; exact HX.out))
          have iz2 : nz < y0 := by have h := numP_le startB P; have := HNB.out; omega
          have iz : (nz : Int) < (y0 : Int) := by omega
          clear hnz
          refine wp_region_C (fun w' => w'.cell? ⟨B0, 0, none⟩ = some (.int .u32 (x : Int)) ∧ w'.cell? ⟨B0, 2, none⟩ = some (.slice pr r0 cr) ∧ w'.cell? ⟨B0, 3, none⟩ = some (.slice (some ⟨gs, 0, none⟩) y0 cs) ∧ w'.cell? ⟨gs, nz, none⟩ = some (.int .u32 (x : Int)) ∧ (Instr.lookup 75 (.map (some m)) (.string ⟨#[115, 116, 97, 114, 116]⟩) false).run Try.prog w' = .ok (.int .i64 (nz : Int)) w') [(0, 0), (1, 0), (2, 1), (3, 0), (4, 0), (5, 0), (6, 0), (7, 0), (8, 1), (9, 0), (10, 0), (11, 0), (12, 0), (13, 0), (14, 1), (15, 0), (16, 1), (17, 0), (18, 1), (19, 0), (20, 1), (21, 0), (22, 0), (23, 0)] rfl (by kernel_rfl) ?hSH ?hTH
          case hSH => exact ⟨s0.out, s2.out, s3.out, s5.out, s4.out⟩
          refine wpT_pureD (v := ?_) (some 154) rfl rfl (by rfl) (fun w' => ?_) ?_
          rotate_left
          · (go_simp; try with_reducible rfl)
          try simp only [Act.put, List.setIfInBounds_toArray, List.set_cons_zero, List.set_cons_succ]
          refine wpT_pureD (v := ?_) (some 155) rfl rfl (by rfl) (fun w' => ?_) ?_
          rotate_left
          · (go_simp; try with_reducible rfl)
          try simp only [Act.put, List.setIfInBounds_toArray, List.set_cons_zero, List.set_cons_succ]
          refine wpT_readD (v := ?_) (some 156) rfl rfl (by rfl) (fun w' hw => ?_) ?_
          rotate_left
          · (obtain ⟨q0, q1, q2, q3, q4⟩ := hw; go_simp; try with_reducible rfl)
          try simp only [Act.put, List.setIfInBounds_toArray, List.set_cons_zero, List.set_cons_succ]
          refine wpT_pureD (v := ?_) (some 157) rfl rfl (by rfl) (fun w' => ?_) ?_
          rotate_left
          · (go_simp; try with_reducible rfl)
          try simp only [Act.put, List.setIfInBounds_toArray, List.set_cons_zero, List.set_cons_succ]
          refine wpT_pureD (v := ?_) (some 158) rfl rfl (by rfl) (fun w' => ?_) ?_
          rotate_left
          · (go_simp; try with_reducible rfl)
          try simp only [Act.put, List.setIfInBounds_toArray, List.set_cons_zero, List.set_cons_succ]
          refine wpT_pureD (v := ?_) (some 159) rfl rfl (by rfl) (fun w' => ?_) ?_
          rotate_left
          · (go_simp; try with_reducible rfl)
          try simp only [Act.put, List.setIfInBounds_toArray, List.set_cons_zero, List.set_cons_succ]
          refine wpT_pureD (v := ?_) (some 160) rfl rfl (by rfl) (fun w' => ?_) ?_
          rotate_left
          · (go_simp; try with_reducible rfl)
          try simp only [Act.put, List.setIfInBounds_toArray, List.set_cons_zero, List.set_cons_succ]
          refine wpT_pureD (v := ?_) (some 161) rfl rfl (by rfl) (fun w' => ?_) ?_
          rotate_left
          · (go_simp; try with_reducible rfl)
          try simp only [Act.put, List.setIfInBounds_toArray, List.set_cons_zero, List.set_cons_succ]
          refine wpT_readD (v := ?_) (some 162) rfl rfl (by rfl) (fun w' hw => ?_) ?_
          rotate_left
          · (obtain ⟨q0, q1, q2, q3, q4⟩ := hw; go_simp; try with_reducible rfl)
          try simp only [Act.put, List.setIfInBounds_toArray, List.set_cons_zero, List.set_cons_succ]
          refine wpT_pureD (v := ?_) (some 163) rfl rfl (by rfl) (fun w' => ?_) ?_
          rotate_left
          · (go_simp; try with_reducible rfl)
          try simp only [Act.put, List.setIfInBounds_toArray, List.set_cons_zero, List.set_cons_succ]
          refine wpT_pureD (v := ?_) (some 164) rfl rfl (by rfl) (fun w' => ?_) ?_
          rotate_left
          · (go_simp; try with_reducible rfl)
          try simp only [Act.put, List.setIfInBounds_toArray, List.set_cons_zero, List.set_cons_succ]
          refine wpT_pureD (v := ?_) (some 165) rfl rfl (by rfl) (fun w' => ?_) ?_
          rotate_left
          · (go_simp; try with_reducible rfl)
          try simp only [Act.put, List.setIfInBounds_toArray, List.set_cons_zero, List.set_cons_succ]
          refine wpT_pureD (v := ?_) (some 166) rfl rfl (by rfl) (fun w' => ?_) ?_
          rotate_left
          · (go_simp; try with_reducible rfl)
          try simp only [Act.put, List.setIfInBounds_toArray, List.set_cons_zero, List.set_cons_succ]
          refine wpT_pureD (v := ?_) (some 167) rfl rfl (by rfl) (fun w' => ?_) ?_
          rotate_left
          · (go_simp; try with_reducible rfl)
          try simp only [Act.put, List.setIfInBounds_toArray, List.set_cons_zero, List.set_cons_succ]
          refine wpT_readD (v := ?_) (some 168) rfl rfl (by rfl) (fun w' hw => ?_) ?_
          rotate_left
          · (obtain ⟨q0, q1, q2, q3, q4⟩ := hw; go_simp; try with_reducible rfl)
          try simp only [Act.put, List.setIfInBounds_toArray, List.set_cons_zero, List.set_cons_succ]
          refine wpT_pureD (v := ?_) (some 169) rfl rfl (by rfl) (fun w' => ?_) ?_
          rotate_left
          · (go_simp; try with_reducible rfl)
          try simp only [Act.put, List.setIfInBounds_toArray, List.set_cons_zero, List.set_cons_succ]
          refine wpT_readD (v := ?_) (some 170) rfl rfl (by rfl) (fun w' hw => ?_) ?_
          rotate_left
          · (obtain ⟨q0, q1, q2, q3, q4⟩ := hw; go_simp; try with_reducible rfl)
          try simp only [Act.put, List.setIfInBounds_toArray, List.set_cons_zero, List.set_cons_succ]
          refine wpT_pureD (v := ?_) (some 171) rfl rfl (by rfl) (fun w' => ?_) ?_
          rotate_left
          · (go_simp; try with_reducible rfl)
          try simp only [Act.put, List.setIfInBounds_toArray, List.set_cons_zero, List.set_cons_succ]
          refine wpT_readD (v := ?_) (some 172) rfl rfl (by rfl) (fun w' hw => ?_) ?_
          rotate_left
          · (obtain ⟨q0, q1, q2, q3, q4⟩ := hw; go_simp; try with_reducible rfl)
          try simp only [Act.put, List.setIfInBounds_toArray, List.set_cons_zero, List.set_cons_succ]
          refine wpT_pureD (v := ?_) (some 173) rfl rfl (by rfl) (fun w' => ?_) ?_
          rotate_left
          · (go_simp; try with_reducible rfl)
          try simp only [Act.put, List.setIfInBounds_toArray, List.set_cons_zero, List.set_cons_succ]
          refine wpT_readD (v := ?_) (some 174) rfl rfl (by rfl) (fun w' hw => ?_) ?_
          rotate_left
          · (obtain ⟨q0, q1, q2, q3, q4⟩ := hw; go_simp; try with_reducible rfl)
          try simp only [Act.put, List.setIfInBounds_toArray, List.set_cons_zero, List.set_cons_succ]
          refine wpT_pureD (v := ?_) (some 175) rfl rfl (by rfl) (fun w' => ?_) ?_
          rotate_left
          · (go_simp; try with_reducible rfl)
          try simp only [Act.put, List.setIfInBounds_toArray, List.set_cons_zero, List.set_cons_succ]
          refine wpT_pureD (v := ?_) (some 176) rfl rfl (by rfl) (fun w' => ?_) ?_
          rotate_left
          · (go_simp; try with_reducible rfl)
          try simp only [Act.put, List.setIfInBounds_toArray, List.set_cons_zero, List.set_cons_succ]
          refine wpT_pureD (v := ?_) (some 4) rfl rfl (by rfl) (fun w' => ?_) ?_
          rotate_left
          · (go_simp; try with_reducible rfl)
          try simp only [Act.put, List.setIfInBounds_toArray, List.set_cons_zero, List.set_cons_succ]
          refine wpT_end ?_
          go_wp2_with fail
          go_ret
          exact ⟨rfl, HWR.out⟩
end Go.Proofs.L
