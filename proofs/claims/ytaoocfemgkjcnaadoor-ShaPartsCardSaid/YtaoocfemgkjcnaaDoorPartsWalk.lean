/- Proved here: lemmas and contracts (PartsWalk) for the laws of this seat, for all values of the stated types; no further condition. -/
import Derived.Test.YtaoocfemgkjcnaaDoorSumsWalk
open Go Go.RowKit Go.Lib
namespace Go.Proofs.L
attribute [local irreducible] wpT
structure Pt where
  (p : Option Addr) (b o k c : Nat) (L : List Nat)
def PtOk (W : World) (t : Pt) : Prop := BytesAt W t.b t.o t.L ∧ t.L.length = t.k ∧ (0 < t.k → t.p = some ⟨t.b, t.o, none⟩) ∧ (t.p = none → t.k = 0 ∧ t.c = 0) ∧ t.k ≤ 140737488355328
def PtsAt (W : World) (b o : Nat) (Ps : List Pt) : Prop := ∀ (j : Nat) (t : Pt), Ps[j]? = some t → W.cell? ⟨b, o + j, none⟩ = some (.slice t.p t.k t.c) ∧ PtOk W t
def catN (Ps : List Pt) : List Nat := Ps.flatMap (·.L)
def cntN (Ps : List Pt) : Nat := (Ps.map fun t => 1 + t.k).sum
theorem PtOk.keep {W w : World} {t : Pt} (h : PtOk W t) (hc : Chg [] W w) : PtOk w t := ⟨h.1.keep hc (by simp), h.2⟩
theorem PtsAt.keep {W w : World} {b o : Nat} {Ps : List Pt} (h : PtsAt W b o Ps) (hc : Chg [] W w) : PtsAt w b o Ps := fun j t hj => by
  obtain ⟨h1, h2⟩ := h j t hj
  exact ⟨by rw [World.cell?_of_block (w := W) (hc.block b (World.block_lt_of_cell? W _ h1) (by simp))]; exact h1, h2.keep hc⟩
theorem take_succP (Ps : List Pt) (j : Nat) (t : Pt) (h : Ps[j]? = some t) : Ps.take (j + 1) = Ps.take j ++ [t] := by rw [List.take_add_one, h]; rfl
theorem catN_succ (Ps : List Pt) (j : Nat) (t : Pt) (h : Ps[j]? = some t) : catN (Ps.take (j + 1)) = catN (Ps.take j) ++ t.L := by
  rw [take_succP Ps j t h]; unfold catN; simp
theorem cntN_succ (Ps : List Pt) (j : Nat) (t : Pt) (h : Ps[j]? = some t) : cntN (Ps.take (j + 1)) = cntN (Ps.take j) + (1 + t.k) := by
  rw [take_succP Ps j t h]; unfold cntN; simp
theorem cntN_le (Ps : List Pt) (j : Nat) : cntN (Ps.take j) ≤ cntN Ps := by
  conv => rhs; rw [← List.take_append_drop j Ps]
  unfold cntN
  rw [List.map_append, List.sum_append]
  omega
theorem cat_len (Ps : List Pt) (h : ∀ t ∈ Ps, t.L.length = t.k) : (catN Ps).length + Ps.length = cntN Ps := by
  induction Ps with
  | nil => rfl
  | cons t Ps ih =>
    have h1 := ih fun u hu => h u (List.mem_cons_of_mem _ hu)
    have h2 := h t List.mem_cons_self
    unfold catN cntN at *
    simp only [List.flatMap_cons, List.length_append, List.length_cons, List.map_cons, List.sum_cons]
    omega
theorem cnt_ge (Ps : List Pt) : Ps.length ≤ cntN Ps := by
  induction Ps with
  | nil => exact Nat.le_refl _
  | cons t Ps ih =>
    unfold cntN at *
    simp only [List.length_cons, List.map_cons, List.sum_cons]
    omega
theorem PtsAt.lens {W : World} {b o : Nat} {Ps : List Pt} (h : PtsAt W b o Ps) : ∀ t ∈ Ps, t.L.length = t.k := fun t ht => by
  obtain ⟨i, hi, rfl⟩ := List.mem_iff_getElem.1 ht
  exact (h i _ (List.getElem?_eq_getElem hi)).2.2.1
theorem ne24 (L M : List Nat) (w : World) (h1 : L.length = 32) (h2 : M.length = 32) (he : L = M) : (Op.equalIn 10000 24 (.agg (natL .u8 L).toArray) (.agg (natL .u8 M).toArray)).run Tryd.prog w = .ok true w := by rw [eq24 _ _ w h1 h2, decide_eq_true he]
theorem own_bytes {w : World} {base e n g : Nat} {v : Value} {L : List Nat} (h : w.ownsRow base e 1 v n (natL .u8 L)) (hg : v.ownBlock = some g) (hb : ∀ x ∈ L, x < 256) : BytesAt w g 0 L := fun j x hj => by
  rw [Nat.zero_add]
  exact ⟨NatAt.of_own h hg j x hj, hb x (List.mem_of_getElem? hj)⟩
set_option maxRecDepth 100000 in
set_option maxHeartbeats 1600000 in
theorem parts_walk {W : World} {pp : Option Addr} {b o n c : Nat} {Ps : List Pt} (hPs : PtsAt W b o Ps) (hn : Ps.length = n) (hp : 0 < n → pp = some ⟨b, o, none⟩) (hL : LaidOk W) (hw0 : 0 < W.heap.size) :
    Calls Tryd.prog 4 #[.slice pp n c] W fun e w' => e = .returned (.bool true) ∧ Chg [] W w' := by
  have HPS := Lib.hid hPs
  have HN := Lib.hid hn
  have HP := Lib.hid hp
  have HL := Lib.hid hL
  have HW0 := Lib.hid hw0
  clear hPs hn hp hL hw0
  go_enter Tryd.func4, Tryd.ntmps4
  go_wp2_with fail
  refine (fit_any HL.out HW0.out).mono ?_
  rintro e w1 ⟨rfl, hc1⟩
  have HC1 := Lib.hid hc1
  have HP1 := Lib.hid (HPS.out.keep hc1)
  clear hc1
  go_wp2_with fail
  go_loopw [16, 3] (fun i m wr => ∃ j q : Nat, j ≤ n ∧ q = cntN (Ps.take j) ∧ q ≤ 1000 ∧ i = .int .i64 (j : Int) ∧ m = .int .i64 (q : Int) ∧ Chg [] w1 wr) (fun i _ _ => n - (intOf i).toNat)
  case atStart => exact ⟨0, 0, by omega, rfl, by omega, rfl, rfl, Chg.refl _ _⟩
  case round =>
    obtain ⟨j, q, hj, hq, hq1, rfl, rfl, hch⟩ := hrel
    have HJ := Lib.hid hj
    have HQ := Lib.hid hq
    have HQ1 := Lib.hid hq1
    have HCH := Lib.hid hch
    clear hj hq hch hq1
    by_cases hjn : j < n
    · have HJN := Lib.hid hjn
      obtain ⟨t, ht⟩ : ∃ t, Ps[j]? = some t := ⟨_, List.getElem?_eq_getElem (by have := HN.out; omega)⟩
      obtain ⟨tc, tok⟩ := HP1.out.keep HCH.out j t ht
      have hq2 := cntN_succ Ps j t ht
      have htk := tok.2.2.2.2
      obtain ⟨tp, tb, t0, tk, tcc, tL⟩ := t
      simp only [] at tc hq2 htk
      obtain rfl := HP.out (by omega)
      have dI : (j : Int) < (n : Int) := by omega
      have jI : (j : Int) < 2000 := by
        have h1 := cnt_ge (Ps.take j)
        rw [List.length_take, HN.out, Nat.min_eq_left (by omega), ← HQ.out] at h1
        have := HQ1.out
        omega
      obtain ⟨k1, hk1⟩ : ∃ z, z = 1 + tk := ⟨_, rfl⟩
      obtain ⟨q2, hq3⟩ : ∃ z, z = q + k1 := ⟨_, rfl⟩
      have hk1I : (1 : Int) + (tk : Int) = (k1 : Int) := by omega
      have hq3I : (q : Int) + (k1 : Int) = (q2 : Int) := by omega
      have hql := HQ1.out
      have e1 : wrap64 (k1 : Int) = (k1 : Int) := IntWalk.wrap64_in _ ⟨by omega, by omega⟩
      have e2 : wrap64 (q2 : Int) = (q2 : Int) := IntWalk.wrap64_in _ ⟨by omega, by omega⟩
      have HQ2 : Hid (q2 = cntN (Ps.take (j + 1))) := Lib.hid (by rw [hq2, hq3, hk1, HQ.out])
      clear tok hq2 htk ht hk1 hq3 hql hjn
      by_cases hbig : 1000 < q2
      · have bI : (1000 : Int) < (q2 : Int) := by omega
        go_wp2
        go_ret
        exact ⟨rfl, HC1.out.trans HCH.out⟩
      · have bI : ¬ (1000 : Int) < (q2 : Int) := by omega
        have HB : Hid (q2 ≤ 1000) := Lib.hid (by omega)
        go_wp2
        case roundEnd => exact ⟨⟨j + 1, q2, HJN.out, HQ2.out, HB.out, rfl, rfl, HCH.out⟩, by simp only [intOf]; have := HJN.out; omega⟩
    · have hjn2 : j = n := by have := HJ.out; omega
      have dI : ¬ (j : Int) < (n : Int) := by omega
      have HT : Hid (cntN Ps ≤ 1000) := Lib.hid (by have := HQ1.out; have h2 := HQ.out; rw [List.take_of_length_le (by rw [HN.out]; omega)] at h2; omega)
      have HLS := Lib.hid (HPS.out.lens)
      have HN1 : Hid (n ≤ 1000) := Lib.hid (by have := cat_len Ps HLS.out; have := HN.out; have := HT.out; omega)
      have HCL : Hid (∀ i, (catN (Ps.take i)).length ≤ 1000) := Lib.hid (fun i => by have h1 := cat_len (Ps.take i) (fun t ht => HLS.out t (List.mem_of_mem_take ht)); have := cntN_le Ps i; have := HT.out; omega)
      have HC2 := Lib.hid (HC1.out.trans HCH.out)
      clear hjn hjn2
      go_wp2_with fail
      refine (new_any wr).mono ?_
      rintro e w2 ⟨rfl, hh2, hc2⟩
      obtain ⟨X, hX⟩ : ∃ X, X = wr.heap.size := ⟨_, rfl⟩
      rw [← hX] at hh2 ⊢
      have HX0 : Hid (X ≠ 0 ∧ W.heap.size ≤ X ∧ X < w2.heap.size) := Lib.hid ⟨by have := HW0.out; have := HC2.out.size; omega, by have := HC2.out.size; omega, row_lt hh2.row⟩
      have HH2 := Lib.hid hh2
      have HC3 : Hid (Chg [] W w2) := Lib.hid (HC2.out.trans hc2)
      have HB0 : Hid (∀ x ∈ catN Ps, x < 256) := Lib.hid (fun x hx => by
        unfold catN at hx
        rw [List.mem_flatMap] at hx
        obtain ⟨t, ht, hx⟩ := hx
        obtain ⟨i, hi, rfl⟩ := List.mem_iff_getElem.1 ht
        exact (HPS.out i _ (List.getElem?_eq_getElem hi)).2.1.all x hx)
      have HB1 : Hid (∀ i, ∀ x ∈ catN (Ps.take i), x < 256) := Lib.hid (fun i x hx => HB0.out x (by
        unfold catN at hx ⊢
        rw [List.mem_flatMap] at hx ⊢
        obtain ⟨t, ht, hx⟩ := hx
        exact ⟨t, List.mem_of_mem_take ht, hx⟩))
      clear hX hh2 hc2 dI
      go_wp2_with fail
      go_loopw [31, 7] (fun i v wq => ∃ j : Nat, j ≤ n ∧ i = .int .i64 (j : Int) ∧ wq.ownsRow w2.heap.size 5 1 v (catN (Ps.take j)).length (natL .u8 (catN (Ps.take j))) ∧ Hs wq X (writeS s0 (catN (Ps.take j))).h (writeS s0 (catN (Ps.take j))).p (writeS s0 (catN (Ps.take j))).n ∧ Chg [] W wq ∧ w2.heap.size ≤ wq.heap.size) (fun i _ _ => n - (intOf i).toNat)
      case atStart => exact ⟨0, by omega, rfl, World.ownsRow_nil _ _ _ _, HH2.out, HC3.out, Nat.le_refl _⟩
      case round =>
        obtain ⟨j, hj, rfl, hown, hhs, hch, hsz⟩ := hrel
        have HJ := Lib.hid hj
        have HO := Lib.hid hown
        have HHS := Lib.hid hhs
        have HCW := Lib.hid hch
        have HSZ := Lib.hid hsz
        have HLW := Lib.hid (HL.out.keep hch (by simp))
        clear hj hown hhs hch hsz
        by_cases hjn : j < n
        · have HJN := Lib.hid hjn
          obtain ⟨t, ht⟩ : ∃ t, Ps[j]? = some t := ⟨_, List.getElem?_eq_getElem (by have := HN.out; omega)⟩
          obtain ⟨tc, tok⟩ := HPS.out.keep HCW.out j t ht
          have hcat := catN_succ Ps j t ht
          have hl1 := HCL.out (j + 1)
          have hb1 := HB1.out (j + 1)
          obtain ⟨tp, tb, t0, tk, tcc, tL⟩ := t
          obtain ⟨tby, tlen, tptr, tnil, _⟩ := tok
          simp only [] at tc hcat tby tlen tptr tnil
          obtain rfl := HP.out (by omega)
          have dI : (j : Int) < (n : Int) := by omega
          have jI : (j : Int) < 2000 := by have := HN1.out; omega
          obtain ⟨A, hA⟩ : ∃ A, A = catN (Ps.take j) := ⟨_, rfl⟩
          rw [← hA] at hcat HO HHS
          rw [hcat] at hl1 hb1
          rw [List.length_append, tlen] at hl1
          have HTB := Lib.hid tby
          have HPS2 : Hid (BytesAt W tb t0 tL) := Lib.hid (HPS.out j _ ht).2.1
          have HTL := Lib.hid tlen
          have HTP := Lib.hid tptr
          have HTN := Lib.hid tnil
          have HCAT := Lib.hid hcat
          have HL1 := Lib.hid hl1
          have HBB := Lib.hid hb1
          obtain ⟨S0, hS0⟩ : ∃ S, S = wr.heap.size := ⟨_, rfl⟩
          have HS0 := Lib.hid hS0
          have htc := Lib.hid tc
          obtain ⟨p7, c7, rfl, hg7⟩ := own_form HO.out
          clear tby tlen tptr tnil hcat hl1 hb1 hA hS0 ht hjn hg7
          go_wp2_with (at_builtin; refine app_src rfl _ _ 22 5 .u8 1 rfl Tryd.underlying22 info5 (by decide) S0 (.slice none 0 0) 0 [] rfl (World.ownsRow_nil _ _ _ _) tp tk tcc tL rfl HTL.out (fun h => HTN.out h) (fun ad h i y hy => by
            have h0 : 0 < tk := by have := (List.getElem?_eq_some_iff.1 hy).1; have := HTL.out; omega
            have h1 := HTP.out h0
            rw [h] at h1
            obtain rfl := Option.some.inj h1
            rw [addr_add]
            exact (HTB.out i y hy).1) (by have := HL1.out; omega) (Nat.le_of_eq HS0.out) ?_)
          intro v5 w5 hx1 hx2
          have hx3 : w5.ownsRow S0 5 1 v5 tk (natL .u8 tL) := by simpa [natL] using hx1
          have hc5 : Chg [] wr w5 := chg_grown (Chg.refl _ _) hx2 (fun x hx => by cases hx)
          obtain ⟨p5, c5, rfl, hg5⟩ := own_form hx3
          obtain ⟨gi, hgi⟩ : ∃ gi, (0 < tk → p5 = some ⟨gi, 0, none⟩ ∧ (Value.slice p5 tk c5).ownBlock = some gi) ∧ S0 ≤ gi := by
            by_cases h0 : 0 < tk
            · obtain ⟨g, h1, h2⟩ := hg5 h0
              exact ⟨g, fun _ => ⟨h1, h2⟩, (hx3.lt g h2).1⟩
            · exact ⟨S0, fun h => absurd h h0, Nat.le_refl _⟩
          have HGI := Lib.hid hgi
          have HX3 := Lib.hid hx3
          have HC5 := Lib.hid hc5
          have HB5 : Hid (BytesAt w5 gi 0 tL) := Lib.hid (by
            by_cases h0 : 0 < tk
            · exact own_bytes hx3 (hgi.1 h0).2 (fun x hx => HBB.out x (List.mem_append.2 (.inr hx)))
            · obtain rfl := List.eq_nil_of_length_eq_zero (show tL.length = 0 by have := HTL.out; omega)
              intro i x hx; cases hx)
          have HXS : Hid (X < S0) := Lib.hid (by have := HX0.out.2.2; have := HSZ.out; have := HS0.out; omega)
          clear hx1 hx2 hx3 hc5 hg5 hgi tc
          go_wp2_with fail
          refine (write_any (L := tL) (b1 := gi) (o1 := 0) (HHS.out.keep HC5.out (by simp)) HB5.out HTL.out (fun h => (HGI.out.1 h).1) (fun h => by have := HGI.out.2; have := HXS.out; omega) (by have := HL1.out; omega) (by rw [s0_n]; have := HL1.out; omega) (HLW.out.keep HC5.out (by simp)) HX0.out.1).mono ?_
          rintro e w6 ⟨rfl, hh6, hc6⟩
          rw [← writeS_app, ← HCAT.out] at hh6
          have HH6 := Lib.hid hh6
          have HC6 := Lib.hid hc6
          have HO6 : Hid (w6.ownsRow S0 5 1 (.slice p5 tk c5) tk (natL .u8 tL)) := Lib.hid (ownsRow_chg HX3.out hc6 (by intro k hk; rw [List.mem_singleton]; have := (HX3.out.lt k hk).1; have := HXS.out; omega))
          have HCW6 : Hid (Chg [] W w6) := Lib.hid (chg_new (HCW.out.trans HC5.out) hc6 (by intro g hg; rw [List.mem_singleton] at hg; subst hg; exact HX0.out.2.1))
          clear hh6 hc6
          go_wp2_with fail
          go_loopw [42, 11] (fun i _ wq => ∃ (q : Nat) (M : List Nat), q ≤ tk ∧ i = .int .i64 (q : Int) ∧ M.length = tk ∧ wq.ownsRow S0 5 1 (.slice p5 tk c5) tk (natL .u8 M) ∧ Chg [gi] w6 wq) (fun i _ _ => tk - (intOf i).toNat)
          case atStart => exact ⟨0, tL, by omega, rfl, HTL.out, HO6.out, Chg.refl _ _⟩
          case round =>
            obtain ⟨q, M, hq, rfl, hM, hoq, hcq⟩ := hrel
            have HQ := Lib.hid hq
            have HM := Lib.hid hM
            have HOQ := Lib.hid hoq
            have HCQ := Lib.hid hcq
            clear hq hM hoq hcq
            by_cases hqk : q < tk
            · have HQK := Lib.hid hqk
              have qI : (q : Int) < (tk : Int) := by omega
              have hk0 : 0 < tk := by omega
              obtain rfl := (HGI.out.1 hk0).1
              obtain ⟨x, hx⟩ : ∃ x, x = M.getD q 0 := ⟨_, rfl⟩
              have qx := (NatAt.of_own HOQ.out rfl).get q x (by rw [HM.out]; exact hqk) hx
              have fx : wr.frozen? ⟨gi, q, none⟩ = false := by obtain ⟨tl, hrow, _⟩ := own_row HOQ.out; exact row_free hrow _
              obtain ⟨y, hy⟩ : ∃ y, y = (x + 1) % 256 := ⟨_, rfl⟩
              have hyI : IntKind.u8.wrap ((x : Int) + 1) = (y : Int) := by rw [IntKind.wrap_u8]; omega
              have HY : Hid (((x : Int) + 1) % 256 = (y : Int)) := Lib.hid (by omega)
              have qB : (q : Int) < 5000 := by have := HL1.out; omega
              clear hx hy hqk hk0
              go_wp2_with fail
              (try rw [HY.out])
              refine ⟨⟨q + 1, M.set q y, HQK.out, rfl, by rw [List.length_set]; exact HM.out, ?_, ?_⟩, by simp only [intOf]; have := HQK.out; omega⟩
              · have h9 := own_setCell HOQ.out q (.int .u8 (y : Int))
                rw [natL_setL] at h9
                exact h9
              · exact HCQ.out.setCell (.inl (List.mem_singleton.2 rfl)) _
            · have dq : ¬ (q : Int) < (tk : Int) := by omega
              have HA7 : Hid (wr.ownsRow w2.heap.size 5 1 (.slice p7 A.length c7) A.length (natL .u8 A)) := Lib.hid (ownsRow_chg (ownsRow_chg (ownsRow_chg HO.out HC5.out (by intro k _; simp)) HC6.out (by intro k hk; rw [List.mem_singleton]; have := (HO.out.lt k hk).1; have := HX0.out.2.2; omega)) HCQ.out (by intro k hk; rw [List.mem_singleton]; have := (HO.out.lt k hk).2; have := HGI.out.2; have := HS0.out; omega))
              have HH7 : Hid (Hs wr X (writeS s0 (catN (Ps.take (j + 1)))).h (writeS s0 (catN (Ps.take (j + 1)))).p (writeS s0 (catN (Ps.take (j + 1)))).n) := Lib.hid (HH6.out.keep HCQ.out (by rw [List.mem_singleton]; have := HXS.out; have := HGI.out.2; omega))
              have HCW7 : Hid (Chg [] W wr) := Lib.hid (chg_new HCW6.out HCQ.out (by intro g hg; rw [List.mem_singleton] at hg; subst hg; have := HGI.out.2; have := HS0.out; have := HCW.out.size; omega))
              have HSZ7 : Hid (w2.heap.size ≤ wr.heap.size) := Lib.hid (by have := HC5.out.size; have := HC6.out.size; have := HCQ.out.size; have := HSZ.out; omega)
              have HTB7 : Hid (BytesAt wr tb t0 tL) := Lib.hid (by
                by_cases h0 : 0 < tk
                · refine HPS2.out.keep2 HCW7.out HTL.out (by simp)
                · obtain rfl := List.eq_nil_of_length_eq_zero (show tL.length = 0 by have := HTL.out; omega)
                  intro i x hx; cases hx)
              have HALEN : Hid (A.length < 2000) := Lib.hid (by have := HL1.out; omega)
              clear hqk
              go_wp2_with (at_builtin; refine app_src rfl _ _ 22 5 .u8 1 rfl Tryd.underlying22 info5 (by decide) w2.heap.size (.slice p7 A.length c7) A.length A rfl HA7.out tp tk tcc tL rfl HTL.out (fun h => HTN.out h) (fun ad h i y hy => by
                have h0 : 0 < tk := by have := (List.getElem?_eq_some_iff.1 hy).1; have := HTL.out; omega
                have h1 := HTP.out h0
                rw [h] at h1
                obtain rfl := Option.some.inj h1
                rw [addr_add]
                exact (HTB7.out i y hy).1) (by have := HL1.out; omega) HSZ7.out ?_)
              intro v8 w8 hx1 hx2
              obtain ⟨A1, hA1⟩ : ∃ A1, A1 = catN (Ps.take (j + 1)) := ⟨_, rfl⟩
              have HCAT2 := HCAT
              rw [← hA1] at HH7 HCAT2
              have hlen : A1.length = A.length + tk := by rw [HCAT2.out, List.length_append, HTL.out]
              have hx3 : w8.ownsRow w2.heap.size 5 1 v8 A1.length (natL .u8 A1) := by rw [hlen, HCAT2.out]; simpa [natL] using hx1
              have hc8 := grown_chg hx2
              have HH8 : Hid (Hs w8 X (writeS s0 A1).h (writeS s0 A1).p (writeS s0 A1).n) := Lib.hid (HH7.out.keep hc8 (by
                intro hm
                rw [Option.mem_toList] at hm
                have := (HA7.out.lt X hm).1
                have := HX0.out.2.2
                omega))
              have HCW8 : Hid (Chg [] W w8) := Lib.hid (chg_new HCW7.out hc8 (by intro g hg; rw [Option.mem_toList] at hg; have := (HA7.out.lt g hg).1; have := HX0.out.2.1; have := HX0.out.2.2; omega))
              have HO8 := Lib.hid hx3
              have HLW8 := Lib.hid (HL.out.keep HCW8.out (by simp))
              have HSZ8 : Hid (w2.heap.size ≤ w8.heap.size) := Lib.hid (by have := HSZ7.out; have := hx2.size; omega)
              have HA1 := Lib.hid hA1
              have HL2 : Hid (A1.length < 2000) := Lib.hid (by rw [hlen]; have := HL1.out; omega)
              have HB8 : Hid (∀ x ∈ A1, x < 256) := Lib.hid (by rw [HCAT2.out]; exact HBB.out)
              obtain ⟨p8, c8, rfl, hg8⟩ := own_form hx3
              obtain ⟨g8, hg8'⟩ : ∃ g8, (0 < A1.length → p8 = some ⟨g8, 0, none⟩ ∧ (Value.slice p8 A1.length c8).ownBlock = some g8) := by
                by_cases h0 : 0 < A1.length
                · obtain ⟨g, h1, h2⟩ := hg8 h0
                  exact ⟨g, fun _ => ⟨h1, h2⟩⟩
                · exact ⟨0, fun h => absurd h h0⟩
              have HG8 := Lib.hid hg8'
              have HBY8 : Hid (BytesAt w8 g8 0 A1) := Lib.hid (by
                by_cases h0 : 0 < A1.length
                · exact own_bytes hx3 (hg8' h0).2 HB8.out
                · obtain rfl := List.eq_nil_of_length_eq_zero (show A1.length = 0 by omega)
                  intro i x hx; cases hx)
              have HD1 : Hid (∀ w, (Op.equalIn 10000 24 (.agg (natL .u8 (sumN (writeS s0 A1))).toArray) (.agg (natL .u8 (sumN (writeS s0 A1))).toArray)).run Tryd.prog w = .ok true w) := Lib.hid (fun w => ne24 _ _ w (sumN_len _) (sumN_len _) rfl)
              clear hx1 hx2 hA1 hlen hx3 hc8 hg8 hg8' dq
              go_wp2_with fail
              refine (sum_any HH8.out (by rw [s0_n]; have := HL2.out; omega) HLW8.out HX0.out.1).mono ?_
              rintro e v1 ⟨rfl, hc1⟩
              obtain ⟨DA, hDA⟩ : ∃ D, D = (natL .u8 (sumN (writeS s0 A1))).toArray := ⟨_, rfl⟩
              have HDA := Lib.hid hDA
              rw [← hDA] at HD1 ⊢
              have HE1 := Lib.hid hc1
              clear hDA hc1
              go_wp2_with fail
              refine (of_any (HBY8.out.keep HE1.out (by simp)) rfl (fun h => (HG8.out h).1) (by have := HL2.out; omega) (HLW8.out.keep HE1.out (by simp)) (by have := HE1.out.size; have := HCW8.out.size; have := HW0.out; omega)).mono ?_
              rintro e v2 ⟨rfl, hc2⟩
              rw [← HDA.out]
              have HE2 := Lib.hid (HE1.out.trans hc2)
              have d1 := HD1.out
              clear hc2
              go_wp2
              case roundEnd =>
                refine ⟨⟨j + 1, HJN.out, rfl, ?_, ?_, HCW8.out.trans HE2.out, Nat.le_trans HSZ8.out HE2.out.size⟩, by simp only [intOf]; have := HJN.out; omega⟩
                · rw [← HA1.out]; exact ownsRow_chg HO8.out HE2.out (by intro k _; simp)
                · rw [← HA1.out]; exact HH8.out.keep HE2.out (by simp)
        · have hjn2 : j = n := by have := HJ.out; omega
          have dI : ¬ (j : Int) < (n : Int) := by omega
          have hcat : catN (Ps.take j) = catN Ps := by rw [List.take_of_length_le (by rw [HN.out]; omega)]
          have hl1 := HCL.out j
          rw [hcat] at HO HHS hl1
          obtain ⟨A1, hA1⟩ : ∃ A1, A1 = catN Ps := ⟨_, rfl⟩
          rw [← hA1] at HO HHS HB0 hl1
          obtain ⟨p8, c8, rfl, hg8⟩ := own_form HO.out
          obtain ⟨g8, hg8'⟩ : ∃ g8, (0 < A1.length → p8 = some ⟨g8, 0, none⟩ ∧ (Value.slice p8 A1.length c8).ownBlock = some g8) := by
            by_cases h0 : 0 < A1.length
            · obtain ⟨g, h1, h2⟩ := hg8 h0
              exact ⟨g, fun _ => ⟨h1, h2⟩⟩
            · exact ⟨0, fun h => absurd h h0⟩
          have HG8 := Lib.hid hg8'
          have HPN8 : Hid (p8 = none → c8 = 0) := Lib.hid (fun h => by
            rcases HO.out.2 with ⟨h1, h2⟩ | ⟨g, cap, cur, h1, _⟩
            · injection h1
            · subst h; cases h1)
          have HBY8 : Hid (BytesAt wr g8 0 A1) := Lib.hid (by
            by_cases h0 : 0 < A1.length
            · exact own_bytes HO.out (hg8' h0).2 HB0.out
            · obtain rfl := List.eq_nil_of_length_eq_zero (show A1.length = 0 by omega)
              intro i x hx; cases hx)
          have HL2 : Hid (A1.length ≤ 1000) := Lib.hid hl1
          have HD1 : Hid (∀ w, (Op.equalIn 10000 24 (.agg (natL .u8 (sumN (writeS s0 A1))).toArray) (.agg (natL .u8 (refN A1)).toArray)).run Tryd.prog w = .ok true w) := Lib.hid (fun w => by rw [← ref_sum]; exact ne24 _ _ w (sumN_len _) (sumN_len _) rfl)
          clear hjn2 hcat hl1 hA1 hg8 hg8' hjn
          go_wp2_with fail
          refine (sum_any HHS.out (by rw [s0_n]; have := HL2.out; omega) HLW.out HX0.out.1).mono ?_
          rintro e v1 ⟨rfl, hc1⟩
          obtain ⟨DA, hDA⟩ : ∃ D, D = (natL .u8 (sumN (writeS s0 A1))).toArray := ⟨_, rfl⟩
          rw [← hDA] at HD1 ⊢
          have HE1 := Lib.hid hc1
          clear hDA hc1
          go_wp2_with fail
          refine (refSum_any (HBY8.out.keep HE1.out (by simp)) rfl (fun h => (HG8.out h).1) HPN8.out (by have := HL2.out; omega) outAt_adds outAt_h0).mono ?_
          rintro e v2 ⟨rfl, hc2⟩
          obtain ⟨DB, hDB⟩ : ∃ D, D = (natL .u8 (refN A1)).toArray := ⟨_, rfl⟩
          rw [← hDB] at HD1 ⊢
          have HE2 := Lib.hid (HE1.out.trans hc2)
          have d1 := HD1.out
          clear hc2 hDB
          go_wp2
          go_ret
          exact ⟨rfl, HCW.out.trans HE2.out⟩
end Go.Proofs.L
