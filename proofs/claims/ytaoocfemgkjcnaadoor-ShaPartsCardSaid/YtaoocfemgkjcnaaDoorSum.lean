/- Proved here: lemmas and contracts (Sum) for the laws of this seat, for all values of the stated types; no further condition. -/
import Derived.Test.YtaoocfemgkjcnaaDoorSumNil
open Go Go.RowKit Go.Lib
namespace Go.Proofs.L
attribute [local irreducible] wpT
theorem chg_new {E : List Nat} {W w w' : World} (h : Chg [] W w) (h2 : Chg E w w') (hE : ∀ g ∈ E, W.heap.size ≤ g) : Chg [] W w' :=
  ⟨h2.os.trans h.os, h2.tape.trans h.tape, h2.output.trans h.output, Nat.le_trans h.size h2.size, fun k hk _ => (h2.block k (Nat.lt_of_lt_of_le hk h.size) (fun hm => by have := hE k hm; omega)).trans (h.block k hk (by simp))⟩
/-! the digest -/
def padK (n : Nat) : Nat := (120 - n % 64) % 64
def lenB (n i : Nat) : Nat := n * 8 / 2 ^ (56 - 8 * i) % 256
def lenL (n : Nat) : List Nat := (List.range 8).map (lenB n)
def padS (s : St) : St := writeS (writeS s [128]) (List.replicate (padK (s.n + 1)) 0)
def endS (s : St) : St := writeS (padS s) (lenL s.n)
def digB (h : List Nat) (i : Nat) : Nat := h.getD (i / 4) 0 / 2 ^ (24 - 8 * (i % 4)) % 256
def outN (h : List Nat) (k : Nat) : List Nat := (List.range 32).map fun i => if i < k then digB h i else 0
def sumN (s : St) : List Nat := outN (endS s).h 32
theorem outN_len (h : List Nat) (k : Nat) : (outN h k).length = 32 := by simp [outN]
theorem outN_set (h : List Nat) (k : Nat) (hk : k < 32) : (outN h k).set k (digB h k) = outN h (k + 1) := by
  apply List.ext_getElem
  · simp [outN]
  · intro i h1 h2
    rw [List.getElem_set]
    simp only [outN, List.getElem_map, List.getElem_range]
    by_cases e : k = i
    · rw [if_pos e, if_pos (by omega), e]
    · rw [if_neg e]
      by_cases e2 : i < k
      · rw [if_pos e2, if_pos (by omega)]
      · rw [if_neg e2, if_neg (by omega)]
theorem outN_zero (h : List Nat) : (natL .u8 (outN h 0)).toArray = z32 := by rw [z32_nat]; rfl
theorem lenL_get (n i : Nat) (hi : i < 8) : (lenL n)[i]? = some (lenB n i) := by
  unfold lenL
  rw [List.getElem?_map, List.getElem?_range hi]; rfl
theorem hash_size (h p : List Nat) (n : Nat) (hl : h.length = 8) (hp : p.length = 64) : (natL .u32 h ++ hashT p n).length = 73 := by
  unfold hashT natL
  simp [hl, hp]
theorem hash_one (h p : List Nat) (n : Nat) : allOne (natL .u32 h ++ hashT p n).toArray = true := by
  unfold allOne hashT natL
  rw [show ∀ L : List Value, L.toArray.toList = L from fun L => rfl, List.all_append, List.all_append, List.all_map, List.all_map]
  simp only [Bool.and_eq_true, List.all_eq_true]
  refine ⟨fun x _ => rfl, fun x _ => rfl, by intro x hx; rw [List.mem_singleton] at hx; subst hx; rfl⟩
theorem bytesOne {w : World} {b c : Nat} (h : w.row? b = some #[.int .u8 (c : Int)]) (hc : c < 256) : BytesAt w b 0 [c] := by
  intro j d hj
  cases j with
  | zero => 
    rw [List.getElem?_cons_zero] at hj
    obtain rfl := Option.some.inj hj
    refine ⟨?_, hc⟩
    rw [row_cell h]; rfl
  | succ j => simp at hj
theorem pad_step (s : St) (j : Nat) : writeS (writeS s (List.replicate j 0)) [0] = writeS s (List.replicate (j + 1) 0) := by
  rw [← writeS_app, List.replicate_succ']
theorem len_step (s : St) (n j : Nat) (hj : j < 8) : writeS (writeS s ((lenL n).take j)) [lenB n j] = writeS s ((lenL n).take (j + 1)) := by
  rw [← writeS_app, take_succN _ _ _ (lenL_get n j hj)]
theorem len8 (n : Nat) : (lenL n).take 8 = lenL n := List.take_of_length_le (by simp [lenL])
theorem natU8_one (L : List Nat) : allOne (natL .u8 L).toArray = true := by
  unfold allOne natL
  rw [show ∀ L : List Value, L.toArray.toList = L from fun L => rfl, List.all_map, List.all_eq_true]
  exact fun x _ => rfl
theorem write_one {w : World} {C : Nat} {s : St} {c : Nat} (h : Hs w C s.h s.p s.n) (hc : c < 256) (hn : s.n < 1000000000) (hL : LaidOk w) (hC : C ≠ 0) :
    Calls Tryd.prog 10 #[.pointer (some ⟨C, 0, none⟩), .slice (some ⟨w.heap.size, 0, none⟩) 1 1] (w.alloc (.cells #[.int .u8 (c : Int)] 5)) fun e w' => e = .returned (.tuple #[]) ∧ Hs w' C (writeS s [c]).h (writeS s [c]).p (writeS s [c]).n ∧ Chg [C] w w' := by
  have hlt := row_lt h.row
  have ha : Chg [] w (w.alloc (.cells #[.int .u8 (c : Int)] 5)) := (Chg.refl _ _).alloc _
  have h2 : Hs (w.alloc (.cells #[.int .u8 (c : Int)] 5)) C s.h s.p s.n := ⟨by rw [ha.row hlt (by simp)]; exact h.row, h.hl, h.pl, h.hb, h.pb, h.nb⟩
  refine (write_any (k := 1) (c := 1) (L := [c]) (b1 := w.heap.size) (o1 := 0) h2 (bytesOne (row_alloc_at _ _ _ _ rfl) hc) rfl (fun _ => rfl) (fun _ => by omega) (by decide) hn (hL.keep ha (by simp)) hC).mono ?_
  rintro e w' ⟨rfl, h3, h4⟩
  exact ⟨rfl, h3, ((Chg.refl [C] w).alloc _).trans h4⟩
def cntOf (w : World) (b : Nat) : Nat := match w.cell? ⟨b, 72, none⟩ with | some (.int _ z) => z.toNat | _ => 0
theorem cntOf_hs {w : World} {b : Nat} {h p : List Nat} {n : Nat} (H : Hs w b h p n) : cntOf w b = n := by
  unfold cntOf
  rw [row_cell H.row, hash_n _ _ _ H.hl H.pl]
  rfl
theorem Hs.fix {w : World} {b : Nat} {s t : St} (h : Hs w b s.h s.p s.n) (e : s = t) : Hs w b t.h t.p t.n := e ▸ h
def zH : Array Value := (natL .u32 (List.replicate 8 0) ++ hashT (List.replicate 64 0) 0).toArray
theorem zH_size : zH.size = 73 := rfl
theorem zero44 (w : World) : Sem.run Tryd.prog (zeroValue 44) w = .ok (.agg zH) w := by kernel_rfl
theorem wpList_alloc_agg {P : Program} {ops : Array Oper} {rest : List Oper} {o : Oper} {a : Act} {Q : Exit → Act → World → Prop} {w : World} {T : TypeId} {cs : Array Value} (hz : Sem.run P (zeroValue T) w = .ok (.agg cs) w) (hg : o.guard = none) (ho : o.op = .alloc T)
    (hr : wpList P ops Q rest (a.put o.dst (.pointer (some ⟨w.heap.size, 0, none⟩))) (w.alloc (.cells cs T))) : wpList P ops Q (o :: rest) a w :=
  wpList_plain hg fun K hK => by
    obtain ⟨d, op, t, p, af, g⟩ := o
    simp only at ho hg
    subst ho hg
    unfold Oper.wp
    have e : Sem.run P (execOp a.eval { dst := d, op := .alloc T, type := t, pos := p, after := af, guard := none }) w = .ok (.value (.pointer (some ⟨w.heap.size, 0, none⟩))) (w.alloc (.cells cs T)) := by
      simp [execOp, Instr.alloc, Sem.run_bind, hz, newVar, newRow, Value.cells]
    rw [e]
    exact hK _ _ hr
set_option maxRecDepth 100000 in
set_option maxHeartbeats 1600000 in
theorem sum_any {w : World} {b : Nat} {s : St} (hH : Hs w b s.h s.p s.n) (hn : s.n < 900000000) (hL : LaidOk w) (hb0 : b ≠ 0) :
    Calls Tryd.prog 11 #[.pointer (some ⟨b, 0, none⟩)] w fun e w' => e = .returned (.agg (natL .u8 (sumN s)).toArray) ∧ Chg [] w w' := by
  have hw0 : 0 < w.heap.size := by have := row_lt hH.row; omega
  have hbw := row_lt hH.row
  obtain ⟨V, hV⟩ : ∃ V, V = (w.alloc (.cells z32 24)).alloc (.cells z32 24) := ⟨_, rfl⟩
  obtain ⟨B, hB⟩ : ∃ B, B = w.heap.size := ⟨_, rfl⟩
  have hVs : V.heap.size = B + 1 + 1 := by rw [hV, hB]; exact (Array.size_push ..).trans (congrArg (· + 1) (Array.size_push ..))
  obtain ⟨C, hC⟩ : ∃ C, C = V.heap.size := ⟨_, rfl⟩
  have hCB : C = B + 1 + 1 := by omega
  have r1 : V.row? B = some z32 := by rw [hV, hB, row_alloc_past _ _ _ (by simp)]; exact row_alloc_at _ _ _ _ rfl
  have r2 : V.row? (B + 1) = some z32 := by rw [hV, hB]; exact row_alloc_at _ _ _ _ (by simp)
  have hc : Chg [] w V := by rw [hV]; exact ((Chg.refl _ _).alloc _).alloc _
  have rb : V.row? b = some (natL .u32 s.h ++ hashT s.p s.n).toArray := by rw [hc.row hbw (by simp)]; exact hH.row
  obtain ⟨X, hX⟩ : ∃ X, X = V.alloc (.cells (natL .u32 s.h ++ hashT s.p s.n).toArray 44) := ⟨_, rfl⟩
  have hcX : Chg [] w X := by rw [hX]; exact hc.alloc _
  have x1 : X.row? B = some z32 := by rw [hX, row_alloc_past _ _ _ (by omega)]; exact r1
  have x2 : X.row? (B + 1) = some (natL .u8 (outN (endS s).h 0)).toArray := by rw [hX, row_alloc_past _ _ _ (by omega), outN_zero]; exact r2
  have x3 : X.row? C = some (natL .u32 s.h ++ hashT s.p s.n).toArray := by rw [hX]; exact row_alloc_at _ _ _ _ (by omega)
  have HX3 : Hid (Hs X C s.h s.p s.n) := Lib.hid ⟨x3, hH.hl, hH.pl, hH.hb, hH.pb, hH.nb⟩
  have HX1 := Lib.hid x1
  have HX2 := Lib.hid x2
  have HLX : Hid (LaidOk X) := Lib.hid (hL.keep hcX (by simp))
  have HCX := Lib.hid hcX
  have HRB := Lib.hid rb
  have HB := Lib.hid hB
  have HC := Lib.hid hC
  have HCB := Lib.hid hCB
  have HXV := Lib.hid hX
  have HN := Lib.hid hn
  have HBW := Lib.hid hbw
  have HSZ := Lib.hid (hash_size s.h s.p s.n hH.hl hH.pl)
  have HAO := Lib.hid (hash_one s.h s.p s.n)
  have HV : Hid (V = (w.alloc (.cells #[.int .u8 0, .int .u8 0, .int .u8 0, .int .u8 0, .int .u8 0, .int .u8 0, .int .u8 0, .int .u8 0, .int .u8 0, .int .u8 0, .int .u8 0, .int .u8 0, .int .u8 0, .int .u8 0, .int .u8 0, .int .u8 0, .int .u8 0, .int .u8 0, .int .u8 0, .int .u8 0, .int .u8 0, .int .u8 0, .int .u8 0, .int .u8 0, .int .u8 0, .int .u8 0, .int .u8 0, .int .u8 0, .int .u8 0, .int .u8 0, .int .u8 0, .int .u8 0] 24)).alloc (.cells #[.int .u8 0, .int .u8 0, .int .u8 0, .int .u8 0, .int .u8 0, .int .u8 0, .int .u8 0, .int .u8 0, .int .u8 0, .int .u8 0, .int .u8 0, .int .u8 0, .int .u8 0, .int .u8 0, .int .u8 0, .int .u8 0, .int .u8 0, .int .u8 0, .int .u8 0, .int .u8 0, .int .u8 0, .int .u8 0, .int .u8 0, .int .u8 0, .int .u8 0, .int .u8 0, .int .u8 0, .int .u8 0, .int .u8 0, .int .u8 0, .int .u8 0, .int .u8 0] 24)) := Lib.hid (by rw [hV]; rfl)
  have HHl := Lib.hid hH
  have HC0 : Hid (C ≠ 0 ∧ C ≠ B ∧ C ≠ B + 1 ∧ w.heap.size ≤ C ∧ C < X.heap.size) := Lib.hid ⟨by omega, by omega, by omega, by omega, row_lt x3⟩
  clear hw0 hbw hV hB hVs hC hCB r1 r2 hc rb hX hcX x1 x2 x3 hH hn hL hb0
  go_enter Tryd.func11, Tryd.ntmps11
  go_upto_region 2 with (fail)
  rw [← HB.out, ← HV.out]
  clear HV
  go_upto_region 4 with (fail)
  go_upto_region 5 with (first | (refine wpList_alloc_agg (zero44 _) rfl rfl ?_) | (refine wpList_load_part a44 (natL .u32 s.h ++ hashT s.p s.n) rfl _ rfl rfl HSZ.out (fun j u hu => by rw [Nat.zero_add, row_cell HRB.out, ← hu]; simp) ?_) | (refine wpList_store_new a44 _ _ rfl rfl rfl rfl rfl zH_size HSZ.out HAO.out ?_))
  rw [← HXV.out, ← HC.out]
  have cn : X.cell? ⟨C, 72, none⟩ = some (.int .u64 (s.n : Int)) := by rw [row_cell HX3.out.row, hash_n _ _ _ HX3.out.hl HX3.out.pl]
  obtain ⟨n8, hn8⟩ : ∃ n8, n8 = s.n * 8 := ⟨_, rfl⟩
  have e8 : IntKind.u64.wrap ((s.n : Int) * 8) = (n8 : Int) := by rw [u64w]; have := HN.out; omega
  have HN8 := Lib.hid hn8
  clear hn8
  go_upto_region 6 with (fail)
  clear cn e8
  go_wp2_with fail
  refine (write_one (c := 128) HX3.out (by decide) (by have := HN.out; omega) HLX.out HC0.out.1).mono ?_
  rintro e w1 ⟨rfl, hh1, hc1⟩
  obtain ⟨s1, hs1⟩ : ∃ s1, s1 = writeS s [128] := ⟨_, rfl⟩
  have hn1 : s1.n = s.n + 1 := by rw [hs1, writeS_n]; rfl
  obtain ⟨K, hK⟩ : ∃ K, K = padK s1.n := ⟨_, rfl⟩
  rw [← hs1] at hh1
  have HS1 := Lib.hid hs1
  have HN1 := Lib.hid hn1
  have HK := Lib.hid hK
  have HH1 := Lib.hid hh1
  have HC1 := Lib.hid hc1
  clear hs1 hn1 hK hh1 hc1
  go_wp2_with fail
  go_loopw [] (fun wr => ∃ j : Nat, j ≤ K ∧ Hs wr C (writeS s1 (List.replicate j 0)).h (writeS s1 (List.replicate j 0)).p (writeS s1 (List.replicate j 0)).n ∧ Chg [C] X wr) (fun wr => (120 - cntOf wr C % 64) % 64)
  case atStart => exact ⟨0, by omega, HH1.out, HC1.out⟩
  case round =>
    obtain ⟨j, hj, hs, hch⟩ := hrel
    have HCH := Lib.hid hch
    have HS := Lib.hid hs
    have HJ := Lib.hid hj
    clear hch hs hj
    have hm := writeS_n s1 (List.replicate j 0)
    rw [List.length_replicate] at hm
    have hps := pad_step s1 j
    have hfin : j = K → writeS s1 (List.replicate j 0) = padS s := fun e => by rw [e, HK.out, HS1.out]; unfold padS; rw [writeS_n]; rfl
    obtain ⟨t, ht⟩ : ∃ t, t = writeS s1 (List.replicate j 0) := ⟨_, rfl⟩
    rw [← ht] at HS hm hps hfin
    clear ht
    have hnl : t.n < 1000000000 := by have := HN.out; have := HN1.out; have := HJ.out; have := HK.out; unfold padK at this; omega
    have hpos : t.n % 64 ≠ 56 → j < K := fun e => by have := HN1.out; have := HJ.out; have := HK.out; unfold padK at this; omega
    have hpos2 : t.n % 64 = 56 → j = K := fun e => by have := HN1.out; have := HJ.out; have := HK.out; unfold padK at this; omega
    have cn : wr.cell? ⟨C, 72, none⟩ = some (.int .u64 (t.n : Int)) := by rw [row_cell HS.out.row, hash_n _ _ _ HS.out.hl HS.out.pl]
    obtain ⟨m, hm2⟩ : ∃ m, m = t.n % 64 := ⟨_, rfl⟩
    have e3 : (t.n : Int) % 64 = (m : Int) := by omega
    have e4 : (t.n : Int).tmod 64 = (m : Int) := by rw [Int.tmod_eq_emod_of_nonneg (by omega)]; exact e3
    have HPS := Lib.hid hps
    have HFN := Lib.hid hfin
    have HP1 := Lib.hid hpos
    have HP2 := Lib.hid hpos2
    have HM := Lib.hid hm
    have HM2 := Lib.hid hm2
    have HNL := Lib.hid hnl
    clear hps hfin hpos hpos2 hm hm2 hnl
    by_cases h56 : m = 56
    · have d1 : decide ((m : Int) ≠ 56) = false := by rw [decide_eq_false_iff_not]; omega
      have d2 : ((m : Int) != 56) = false := by rw [h56]; rfl
      have d3 : ((m : Int) == 56) = true := by rw [h56]; rfl
      have hjK := HP2.out (by rw [← HM2.out]; exact h56)
      have hpad := HFN.out hjK
      rw [hpad] at HS
      have HPAD := Lib.hid hpad
      clear hpad hjK
      go_upto_region 9 with (fail)
      have hpn : (padS s).n < 950000000 := by rw [← HPAD.out, HM.out, HN1.out]; have := HN.out; have := HJ.out; have := HK.out; unfold padK at this; omega
      obtain ⟨P, hP⟩ : ∃ P, P = padS s := ⟨_, rfl⟩
      rw [← hP] at HS hpn
      have HPP := Lib.hid hP
      have HPN := Lib.hid hpn
      clear hP hpn cn e3 e4 d1 d2 d3 h56 HPAD HPS HFN HP1 HP2 HM HM2 HNL HJ
      go_wp2_with fail
      go_loopw [25, 6] (fun i _ wq => ∃ k : Nat, k ≤ 8 ∧ i = .int .i64 k ∧ Hs wq C (writeS P ((lenL s.n).take k)).h (writeS P ((lenL s.n).take k)).p (writeS P ((lenL s.n).take k)).n ∧ Chg [C] X wq) (fun i _ _ => 8 - (intOf i).toNat)
      case atStart => exact ⟨0, by omega, rfl, HS.out, HCH.out⟩
      case round =>
        obtain ⟨k, hk, rfl, hs, hch⟩ := hrel
        have HC2 := Lib.hid hch
        have HS2 := Lib.hid hs
        clear hch hs
        by_cases hk2 : k < 8
        · have HKK := Lib.hid hk2
          have dk : decide ((k : Int) < 8) = true := by rw [decide_eq_true_eq]; omega
          have hkI : (k : Int) < 8 := by omega
          have HE : Hid ((n8 : Int) / 2 ^ (56 - 8 * k) % 256 = (lenB s.n k : Int)) := Lib.hid (by unfold lenB; rw [HN8.out, Int.natCast_emod, Int.natCast_ediv, Int.natCast_pow]; rfl)
          have hsn := writeS_n P ((lenL s.n).take k)
          have hsl : (writeS P ((lenL s.n).take k)).n < 1000000000 := by rw [hsn, List.length_take]; have := HPN.out; have : min k (lenL s.n).length ≤ k := Nat.min_le_left _ _; omega
          have HSL := Lib.hid hsl
          clear hk2 hsn hsl
          go_wp2_with fail
          rw [HE.out]
          refine (write_one (c := lenB s.n k) HS2.out (Nat.mod_lt _ (by decide)) HSL.out (HLX.out.keep HC2.out (by simp; exact fun h => HC0.out.1 h.symm)) HC0.out.1).mono ?_
          rintro e w3 ⟨rfl, hh3, hc3⟩
          rw [len_step P s.n k HKK.out] at hh3
          have HH3 := Lib.hid hh3
          have HC3 := Lib.hid (HC2.out.trans hc3)
          clear hh3 hc3
          go_wp2
          case roundEnd => exact ⟨⟨k + 1, HKK.out, rfl, HH3.out, HC3.out⟩, by simp only [intOf]; have := HKK.out; omega⟩
        · have hk8 : k = 8 := by omega
          have dk : decide ((k : Int) < 8) = false := by rw [decide_eq_false_iff_not]; omega
          have hs := HS2.out
          rw [hk8, len8, HPP.out] at hs
          have hs2 : Hs wr C (endS s).h (endS s).p (endS s).n := hs
          have HS3 := Lib.hid hs2
          obtain ⟨E, hE⟩ : ∃ E, E = (endS s).h := ⟨_, rfl⟩
          rw [← hE] at HS3 HX2
          have HSE : Hid (sumN s = outN E 32) := Lib.hid (by rw [hE]; rfl)
          have x2 := HX2.out
          have hr2 : wr.row? (B + 1) = some (natL .u8 (outN E 0)).toArray := by rw [HC2.out.row (row_lt HX2.out) (by simp; exact fun h => HC0.out.2.2.1 h.symm)]; exact HX2.out
          have hr1 : wr.row? B = some z32 := by rw [HC2.out.row (row_lt HX1.out) (by simp; exact fun h => HC0.out.2.1 h.symm)]; exact HX1.out
          have HR1 := Lib.hid hr1
          have HR2 := Lib.hid hr2
          have hb1 := HC0.out
          clear hs hs2 hE x2 hr1 hr2 hk8 HS2
          go_wp2_with fail
          go_loopw [37, 7] (fun i _ wq => ∃ k : Nat, k ≤ 32 ∧ i = .int .i64 k ∧ wq.row? (B + 1) = some (natL .u8 (outN E k)).toArray ∧ Chg [B + 1] wr wq) (fun i _ _ => 32 - (intOf i).toNat)
          case atStart => exact ⟨0, by omega, rfl, HR2.out, Chg.refl _ _⟩
          case round =>
            obtain ⟨i, hi, rfl, hr, hch⟩ := hrel
            have HRW := Lib.hid hr
            have HC4 := Lib.hid hch
            clear hr hch
            by_cases hi2 : i < 32
            · have HI := Lib.hid hi2
              have dk : decide ((i : Int) < 32) = true := by rw [decide_eq_true_eq]; omega
              have hiI : (i : Int) < 32 := by omega
              obtain ⟨x, hx⟩ : ∃ x, x = E.getD (i / 4) 0 := ⟨_, rfl⟩
              have hrC : wr.row? C = some (natL .u32 E ++ hashT (endS s).p (endS s).n).toArray := by rw [HC4.out.row (row_lt HS3.out.row) (by simp; exact hb1.2.2.1)]; exact HS3.out.row
              have cx : wr.cell? ⟨C, i / 4, none⟩ = some (.int .u32 (x : Int)) := by rw [row_cell hrC, hash_h _ _ _ _ HS3.out.hl (by omega), hx]
              obtain ⟨y, hy⟩ : ∃ y, y = (outN E i).getD i 0 := ⟨_, rfl⟩
              have cy : wr.cell? ⟨B + 1, i, none⟩ = some (.int .u8 (y : Int)) := by rw [row_cell HRW.out, natL_get _ _ _ (by rw [outN_len]; exact hi2), hy]
              have fy : wr.frozen? ⟨B + 1, i, none⟩ = false := row_free HRW.out _
              have HE2 : Hid ((x : Int) / 2 ^ (24 - 8 * (i % 4)) % 256 = (digB E i : Int)) := Lib.hid (by unfold digB; rw [hx, Int.natCast_emod, Int.natCast_ediv, Int.natCast_pow]; rfl)
              have HB1 := Lib.hid hb1
              clear hx hy hi2 hb1
              go_wp2_with fail
              rw [HE2.out]
              refine ⟨⟨i + 1, HI.out, rfl, ?_, HC4.out.setCell (.inl (by simp)) _⟩, by simp only [intOf]; have := HI.out; omega⟩
              rw [row_setCell_same, HRW.out]
              show some ((natL .u8 (outN E i)).toArray.setIfInBounds i (.int .u8 (digB E i : Int))) = _
              rw [natL_set, outN_set _ _ HI.out]
            · have hi32 : i = 32 := by omega
              have dk : decide ((i : Int) < 32) = false := by rw [decide_eq_false_iff_not]; omega
              have hr := HRW.out
              rw [hi32, ← HSE.out] at hr
              have HRF := Lib.hid hr
              have hz : wr.row? B = some z32 := by rw [HC4.out.row (row_lt HR1.out) (by simp)]; exact HR1.out
              have HZ := Lib.hid hz
              have HB1 := Lib.hid hb1
              have HLN : Hid ((natL .u8 (sumN s)).length = 32) := Lib.hid (by rw [natL_len]; exact outN_len _ _)
              have HSZ2 : Hid ((natL .u8 (sumN s)).toArray.size = 32) := Lib.hid HLN.out
              have HON := Lib.hid (natU8_one (sumN s))
              have HCF : Hid (Chg [] w wr) := Lib.hid (chg_new (chg_new HCX.out HC2.out (by intro g hg; rw [List.mem_singleton] at hg; subst hg; exact hb1.2.2.2.1)) HC4.out (by intro g hg; rw [List.mem_singleton] at hg; subst hg; have := HB.out; omega))
              clear hr hi32 hz hb1 dk
              go_wp2_with (first | (refine wpList_load_part a24 (natL .u8 (sumN s)) rfl _ rfl rfl HLN.out (fun j u hu => by rw [Nat.zero_add, row_cell HRF.out, ← hu]; simp) ?_) | (refine wpList_store_row a24 _ _ rfl rfl rfl rfl rfl HZ.out rfl HSZ2.out HON.out ?_))
              refine bodyPost_ret (ret_cell1 (cs := (natL .u8 (sumN s)).toArray) rfl a24 rfl (by rw [row_setRow, if_pos rfl, HZ.out]; rfl) HSZ2.out) rfl ⟨rfl, HCF.out.setRow (.inr (by rw [HB.out]; exact Nat.le_refl _)) _⟩
    · have d1 : decide ((m : Int) ≠ 56) = true := by rw [decide_eq_true_eq]; omega
      have d2 : ((m : Int) != 56) = true := by rw [bne_iff_ne]; omega
      have d3 : ((m : Int) == 56) = false := by rw [Bool.eq_false_iff]; simp; omega
      go_wp2_with fail
      refine (write_one (c := 0) HS.out (by decide) HNL.out (HLX.out.keep HCH.out (by simp; exact fun h => HC0.out.1 h.symm)) HC0.out.1).mono ?_
      rintro e w2 ⟨rfl, hh2, hc2⟩
      rw [HPS.out] at hh2
      have HH2 := Lib.hid hh2
      have HC2 := Lib.hid (HCH.out.trans hc2)
      clear hh2 hc2
      go_wp2
      case roundEnd => 
        refine ⟨⟨j + 1, by have := HP1.out (by rw [← HM2.out]; exact h56); omega, HH2.out, HC2.out⟩, ?_⟩
        rw [cntOf_hs HH2.out, cntOf_hs HS.out, ← HPS.out, writeS_n]
        have := HM2.out
        show (120 - (t.n + 1) % 64) % 64 < _
        omega
end Go.Proofs.L
