/- Proved here: lemmas and contracts (Lk21) for the laws of this seat, for all values of the stated types; no further condition. -/
import Derived.Test.YtjbplncpcgfaoaaLk20
import Derived.Test.YtjbplncpcgfaoaaLk21a
import Derived.Test.YtjbplncpcgfaoaaApp
import Derived.Test.YtjbplncpcgfaoaaLk8
open Go Go.RowKit Go.Lib Go.Maps
namespace Go.Proofs.L
attribute [local irreducible] wpT
/-! LinkOrder: the walk -/
theorem app_many {P : Program} {w : World} {ops : Array Oper} {rest : List Oper} {o : Oper} {a : Act} {Q : Exit → Act → World → Prop} (hgd : o.guard = none) (d : Option Tmp) (hd : o.dst = d) (s x : Operand) (t e : TypeId) (z : Value) (size bytes : Nat)
    (ho : o.op = .call { callee := .builtin .append, args := #[s, x], argTypes := #[t, t] }) (ht : P.underlying t = some (.slice e)) (hI : (P.info? e).map (fun i => (i.zero, i.size, i.bytes)) = some (some z, size, bytes)) (hzs : z.cells.size = size) (hsz : 0 < size) (hb8 : bytes ≤ 128)
    (base : Nat) (v : Value) (n : Nat) (xs : List Value) (hs : a.eval s = v) (hown : w.ownsRow base e size v n xs)
    (pp : Addr) (m c : Nat) (news : List Value) (hx : a.eval x = .slice (some pp) m c) (hl : news.length = m * size) (hnews : ∀ j u, news[j]? = some u → w.cell? (pp.add j) = some u) (h1 : ∀ u ∈ news, u.oneCell' = true) (hn : n + m < 100000) (hbase : base ≤ w.heap.size)
    (h : ∀ v' w', w'.ownsRow base e size v' (n + m) (xs ++ news) → w.grownBy w' v.ownBlock → (∀ g, v'.ownBlock = some g → v.ownBlock = some g ∨ w.heap.size ≤ g) → wpList P ops Q rest (a.put d v') w') : wpList P ops Q (o :: rest) a w := by
  subst hd
  obtain ⟨i, hi, hz, h2, h3⟩ := info_parts hI
  by_cases hm : 0 < m
  · refine wpList_append_lies w hgd s x t ho base e i z size bytes ht hi hz h2 h3 hzs hsz v n xs hs hown pp m c news hx hl hnews h1 hm (by unfold maxLen; omega) (by
      have : (n + m) * bytes ≤ 100000 * 128 := Nat.mul_le_mul (by omega) hb8
      omega) hbase _ rfl (fun g cap w' q1 q2 q3 _ => h _ w' q1 q2 (fun g' hg' => by
        simp only [Value.ownBlock] at hg'
        obtain rfl := Option.some.inj hg'
        exact q3.imp id (fun e => Nat.le_of_eq e.symm)))
  · obtain rfl : m = 0 := by omega
    obtain rfl := List.eq_nil_of_length_eq_zero (by simpa using hl)
    have hv : ∃ b cap, v = .slice b n cap ∧ n ≤ cap := by
      rcases hown.2 with ⟨h1, h2⟩ | ⟨g, cap, cur, h1, _, _, h2, _⟩
      · exact ⟨none, 0, by rw [h1, h2], by omega⟩
      · exact ⟨_, cap, h1, h2⟩
    obtain ⟨b, cap, hv, hc⟩ := hv
    refine wpList_plain hgd fun K hK => ?_
    have hrun := run_append_zero (P := P) w t o.type e i ht hi b n cap hc (some pp) c
    unfold Oper.wp execOp
    simp only [ho, resolve, invoke, builtin, Sem.run_bind, Sem.run_pure, Result.andThen_ok, List.map_toArray, List.map_cons, List.map_nil, hs, hx]
    rw [hv, hrun]
    exact hK _ _ (h _ w (by rw [← hv]; simpa using hown) (World.grownBy.refl _ _) fun g hg => .inl (by rw [hv]; exact hg))
theorem turnK (a : Int) (n : Nat) (h0 : 0 < n) (hn : n ≤ 70000) : ∃ K : Nat, K < n ∧ (wrap64 (Int.tmod a (n : Int) + (n : Int))).tmod (n : Int) = (K : Int) := by
  have h1 := Int.lt_tmod_of_pos a (show (0 : Int) < (n : Int) by omega)
  have h2 := Int.tmod_lt_of_pos a (show (0 : Int) < (n : Int) by omega)
  generalize Int.tmod a (n : Int) = t at *
  have e1 : wrap64 (t + (n : Int)) = t + (n : Int) := IntWalk.wrap64_in _ ⟨by omega, by omega⟩
  rw [e1, Int.tmod_eq_emod_of_nonneg (by omega)]
  have h3 := Int.emod_nonneg (t + (n : Int)) (show (n : Int) ≠ 0 by omega)
  have h4 := Int.emod_lt_of_pos (t + (n : Int)) (show (0 : Int) < (n : Int) by omega)
  exact ⟨((t + (n : Int)) % (n : Int)).toNat, by omega, by omega⟩
def obV (L : List Ob) : List Value := L.flatMap fun s => (obA s).toList
theorem obV_len (L : List Ob) : (obV L).length = L.length * 5 := by
  induction L with
  | nil => rfl
  | cons s L ih => unfold obV at ih ⊢; rw [List.flatMap_cons, List.length_append, ih, List.length_cons]; show 5 + _ = _; omega
theorem obV_one (L : List Ob) : ∀ u ∈ obV L, u.oneCell' = true := by
  intro u hu
  unfold obV at hu
  rw [List.mem_flatMap] at hu
  obtain ⟨s, _, hu⟩ := hu
  simp [obA] at hu
  rcases hu with rfl | rfl | rfl | rfl | rfl <;> rfl
theorem obV_at {w : World} {b o : Nat} {L : List Ob} (h : ObsAt w b o L) (k : Nat) (M : List Ob) (hM : ∀ j s, M[j]? = some s → L[k + j]? = some s) : ∀ j u, (obV M)[j]? = some u → w.cell? ((⟨b, o + k * 5, none⟩ : Addr).add j) = some u := by
  intro j u hu
  rw [addr_at]
  have hj : j < M.length * 5 := by rw [← obV_len]; exact (List.getElem?_eq_some_iff.1 hu).1
  obtain ⟨s, hs⟩ : ∃ s, M[j / 5]? = some s := ⟨_, List.getElem?_eq_getElem (by omega)⟩
  have h5 : j % 5 < (obA s).toList.length := by show j % 5 < 5; omega
  have h2 := flat_at 5 (fun s : Ob => (obA s).toList) (fun _ => rfl) M [] (j / 5) s (j % 5) ((obA s).toList[j % 5]) hs (List.getElem?_eq_getElem h5)
  rw [List.append_nil, show j / 5 * 5 + j % 5 = j by omega] at h2
  unfold obV at hu
  rw [hu] at h2
  obtain rfl := Option.some.inj h2
  have h3 := (h (k + j / 5) s (hM _ _ hs)).1 (j % 5) _ (List.getElem?_eq_getElem h5)
  rwa [show o + (k + j / 5) * 5 + j % 5 = o + k * 5 + j by omega] at h3
theorem own_obs {w : World} {base n g c : Nat} {L : List Ob} (h : w.ownsRow base 53 5 (.slice (some ⟨g, 0, none⟩) n c) n (obV L)) (hA : ∀ s ∈ L, ObOk w s) : ObsAt w g 0 L := fun j s hs =>
  ⟨fun i u hu => by
    rw [Nat.zero_add]
    refine cellsAt h rfl (j * 5 + i) u ?_
    have h2 := flat_at 5 (fun s : Ob => (obA s).toList) (fun _ => rfl) L [] j s i u hs hu
    rw [List.append_nil] at h2
    exact h2, hA s (List.mem_of_getElem? hs)⟩
theorem FileOk.keep {w w' : World} {base : Nat} {L : List Ob} {v : Array Value} (h : FileOk w base L v) (hc : Chg [] w w') : FileOk w' base L v := by
  obtain ⟨vg, vr, vs, h1, h2, h3, h4⟩ := h.ex
  exact ⟨⟨vg, vr, vs, h1, h2.keep hc (by simp), ownsRow_chg h3 hc (by intro k _; simp), ownsRow_chg h4 hc (by intro k _; simp)⟩⟩
theorem file_form {w : World} {base : Nat} {L : List Ob} {v : Array Value} (h : FileOk w base L v) : ∃ (x : Nat) (p1 p2 p3 : Option Addr) (n1 c1 c2 c3 : Nat), v = #[.int .u32 (x : Int), .slice p1 n1 c1, .slice p2 (refsL L).length c2, .slice p3 ((defsL L).length + 1) c3] := by
  obtain ⟨vg, vr, vs, h1, h2, h3, h4⟩ := h.ex
  obtain ⟨vc, vd, _, _, h5⟩ := h2.ex
  obtain ⟨p1, c1, rfl, -⟩ := own_form h5
  obtain ⟨p2, c2, rfl, -⟩ := own_form h3
  obtain ⟨p3, c3, rfl, -⟩ := own_form h4
  exact ⟨_, p1, p2, p3, _, c1, c2, c3, h1⟩
theorem post_form2 {W w' : World} {L : List Ob} {e : Ending} (h : LinkPost W L e w') : ∃ (x : Nat) (p1 p2 p3 : Option Addr) (n1 n2 n3 c1 c2 c3 : Nat), e = .returned (.tuple #[.agg #[.int .u32 (x : Int), .slice p1 n1 c1, .slice p2 n2 c2, .slice p3 n3 c3], .int .i64 (errL L : Int)]) ∧
    (errL L = 0 → n3 = (defsL L).length + 1 ∧ n2 = (refsL L).length ∧ FileOk w' W.heap.size L #[.int .u32 (x : Int), .slice p1 n1 c1, .slice p2 n2 c2, .slice p3 n3 c3]) ∧ Chg [] W w' := by
  obtain ⟨v, h1, h2, h3, h4⟩ := h
  by_cases h : errL L = 0
  · obtain ⟨x, p1, p2, p3, n1, c1, c2, c3, h5⟩ := file_form (h3 h)
    subst h5
    exact ⟨x, p1, p2, p3, n1, _, _, c1, c2, c3, h1, fun _ => ⟨rfl, rfl, h3 h⟩, h4⟩
  · have h5 := h2 h
    subst h5
    exact ⟨0, none, none, none, 0, 0, 0, 0, 0, 0, h1, fun e => absurd e h, h4⟩
set_option maxRecDepth 100000 in
set_option maxHeartbeats 8000000 in
theorem order_walk {W : World} {p : Option Addr} {b o n c : Nat} {L : List Ob} (turn : Int) (hS : ObsAt W b o L) (hn : L.length = n) (hp : 0 < n → p = some ⟨b, o, none⟩) (hnc : n ≤ c) (hl : ∀ s ∈ L, LongO s) (hR : ∀ s ∈ L, ∀ r ∈ s.R, r.name.size ≤ maxLen) (hcap : ∀ s ∈ L, s.nc ≤ s.cc ∧ s.nd ≤ s.cd) :
    Calls Try.prog 4 #[.slice p n c, .int .i64 turn] W fun e w' => e = .returned (.bool true) ∧ Chg [] W w' := by
  have HS : Hid (∀ V, Chg [] W V → ObsAt V b o L) := Lib.hid fun V hV => hS.keep hV
  have HN := Lib.hid hn
  have HP := Lib.hid hp
  have HL := Lib.hid hl
  have HRN := Lib.hid hR
  have HCAP := Lib.hid hcap
  have HNC := Lib.hid hnc
  clear hS hn hp hl hR hcap hnc
  go_enter Try.func4, Try.ntmps4
  go_wp2_with fail
  refine (fit_all _).mono ?_
  rintro e w1 ⟨rfl, hc1⟩
  have HC1 := Lib.hid hc1
  clear hc1
  go_wp2_with fail
  refine (light_any (c := c) (HS.out _ HC1.out) HN.out HP.out HL.out).mono ?_
  rintro e w2 ⟨r, rfl, hr, hc2⟩
  have HC2 := Lib.hid (HC1.out.trans hc2)
  clear hc2
  cases r
  case false =>
    clear hr
    go_wp2
    go_ret
    exact ⟨rfl, HC2.out⟩
  case true =>
    have HSM := Lib.hid (hr rfl)
    clear hr
    by_cases hn0 : n = 0
    · subst hn0
      go_wp2
      go_ret
      exact ⟨rfl, HC2.out⟩
    · have dn : ((n : Int) == 0) = false := beq_eq_false_iff_ne.2 (by omega)
      obtain ⟨T0, hK, hKe⟩ := turnK turn n (by omega) (by rw [← HN.out]; exact HSM.out.1)
      have HKE := Lib.hid hKe
      have HK := Lib.hid hK
      have H0 : Hid (0 < n) := Lib.hid (by omega)
      obtain rfl := HP.out (by omega)
      have dn2 : ¬ (n : Int) = 0 := by omega
      clear hK hKe hn0
      go_upto_region 5 with (fail)
      clear dn
      go_upto_region 6 with (fail)
      rw [HKE.out]
      have dk1 : (T0 : Int) ≤ (n : Int) := by have := HK.out; omega
      have dk2 : T0 ≤ n := Nat.le_of_lt HK.out
      have dk3 : (T0 : Int) ≤ (c : Int) := by have := HK.out; have := HNC.out; omega
      have dk4 : T0 ≤ c := by have := HK.out; have := HNC.out; omega
      have dk5 : ¬ c = T0 := by have := HK.out; have := HNC.out; omega
      have dk6 : n ≤ c := HNC.out
      have HSW := Lib.hid (HS.out _ (HC2.out.trans (Chg.refl _ _).drew))
      refine wp_region_C (fun w' => True) [(0, 0), (1, 0), (2, 0), (4, 0), (5, 0), (6, 0), (3, 2), (7, 3), (8, 0)] rfl (by kernel_rfl) ?hSA ?hTA
      case hSA => trivial
      refine wpT_pureD (v := ?_) (some 31) rfl rfl (by rfl) (fun w' => ?_) ?_
      rotate_left
      · (go_simp; try with_reducible rfl)
      try simp only [Act.put, List.setIfInBounds_toArray, List.set_cons_zero, List.set_cons_succ]
      refine wpT_pureD (v := ?_) (some 32) rfl rfl (by rfl) (fun w' => ?_) ?_
      rotate_left
      · (go_simp; try with_reducible rfl)
      try simp only [Act.put, List.setIfInBounds_toArray, List.set_cons_zero, List.set_cons_succ]
      refine wpT_pureD (v := ?_) (some 33) rfl rfl (by rfl) (fun w' => ?_) ?_
      rotate_left
      · (go_simp; try with_reducible rfl)
      try simp only [Act.put, List.setIfInBounds_toArray, List.set_cons_zero, List.set_cons_succ]
      refine wpT_pureD (v := ?_) (some 35) rfl rfl (by rfl) (fun w' => ?_) ?_
      rotate_left
      · (go_simp; try with_reducible rfl)
      try simp only [Act.put, List.setIfInBounds_toArray, List.set_cons_zero, List.set_cons_succ]
      refine wpT_pureD (v := ?_) (some 36) rfl rfl (by rfl) (fun w' => ?_) ?_
      rotate_left
      · (go_simp; try with_reducible rfl)
      try simp only [Act.put, List.setIfInBounds_toArray, List.set_cons_zero, List.set_cons_succ]
      refine wpT_pureD (v := ?_) (some 37) rfl rfl (by rfl) (fun w' => ?_) ?_
      rotate_left
      · (go_simp; try with_reducible rfl)
      try simp only [Act.put, List.setIfInBounds_toArray, List.set_cons_zero, List.set_cons_succ]
      refine wpT_eff rfl (by rfl) (fun K hK => ?_)
      refine (app_many rfl (some 34) rfl _ _ 22 53 _ 5 104 rfl Try.underlying22 info53 rfl (by decide) (by decide) w2.heap.size (.slice none 0 0) 0 [] rfl (World.ownsRow_nil _ _ _ _) ⟨b, o + T0 * 5, none⟩ (n - T0) (c - T0) (obV (L.drop T0)) rfl (by rw [obV_len, List.length_drop, HN.out]) (obV_at HSW.out T0 (L.drop T0) (fun j s hs => by rw [List.getElem?_drop] at hs; exact hs)) (obV_one _) (by have := HN.out; have := HSM.out.1; omega) (Nat.le_refl _) ?_)
      intro v3 w3 hx1 hx2 hx3
      have HX1 : Hid (w3.ownsRow w2.heap.size 53 5 v3 (n - T0) (obV (L.drop T0))) := Lib.hid (by rw [Nat.zero_add] at hx1; exact hx1)
      have HC3 : Hid (Chg [] w2 w3) := Lib.hid ((Chg.refl _ _).drew.trans (grown_chg hx2))
      obtain ⟨p3, c3, rfl, -⟩ := own_form HX1.out
      clear hx1 hx2 hx3
      go_wp2_with fail
      refine hK _ _ trivial ?_
      clear hK K
      try simp only [Act.put, List.setIfInBounds_toArray, List.set_cons_zero, List.set_cons_succ]
      refine wpT_brk rfl (by rfl) (fun K hK => ?_)
      refine (app_many rfl (some 38) rfl _ _ 22 53 _ 5 104 rfl Try.underlying22 info53 rfl (by decide) (by decide) w2.heap.size (.slice p3 (n - T0) c3) (n - T0) (obV (L.drop T0)) rfl HX1.out ⟨b, o, none⟩ T0 c (obV (L.take T0)) rfl (by rw [obV_len, List.length_take, HN.out]; have := HK.out; omega) (by have h := obV_at (HS.out _ (HC2.out.trans HC3.out)) 0 (L.take T0) (fun j s hs => by rw [Nat.zero_add]; have h2 := (List.getElem?_eq_some_iff.1 hs).1; rw [List.length_take] at h2; rw [List.getElem?_take_of_lt (by omega)] at hs; exact hs); simpa using h) (obV_one _) (by have := HN.out; have := HSM.out.1; have := HK.out; omega) HC3.out.size ?_)
      intro v4 w4 hx1 hx2 hx3
      have HX4 : Hid (w4.ownsRow w2.heap.size 53 5 v4 n (obV (L.drop T0 ++ L.take T0))) := Lib.hid (by
        rw [show n - T0 + T0 = n by have := HK.out; omega] at hx1
        unfold obV at hx1 ⊢
        rw [List.flatMap_append]
        exact hx1)
      have HC4 : Hid (Chg [] w2 w4) := Lib.hid (chg_grown HC3.out hx2 (fun k hk => (HX1.out.lt k hk).1))
      obtain ⟨p4, c4, rfl, hp4⟩ := own_form HX4.out
      obtain ⟨g4, rfl, -⟩ := hp4 H0.out
      clear hx1 hx2 hx3 hp4
      go_wp2_with fail
      refine wpT_pureD (v := ?_) (some 6) rfl rfl (by rfl) (fun w' => ?_) ?_
      rotate_left
      · (go_simp; try with_reducible rfl)
      try simp only [Act.put, List.setIfInBounds_toArray, List.set_cons_zero, List.set_cons_succ]
      refine wpT_end ?_
      clear dk1 dk2 dk3 dk4 dk5 dk6
      obtain ⟨L2, hL2⟩ : ∃ M, M = L.drop T0 ++ L.take T0 := ⟨_, rfl⟩
      rw [← hL2] at HX4
      have hperm : L.Perm L2 := by rw [hL2]; exact turn_perm L T0
      have HPM := Lib.hid hperm
      have HN2 : Hid (L2.length = n) := Lib.hid (by rw [← hperm.length_eq]; exact HN.out)
      have HS4 : Hid (∀ V, Chg [] w4 V → ObsAt V g4 0 L2) := Lib.hid fun V hV => own_obs (ownsRow_chg HX4.out hV (by intro k _; simp)) (fun s hs => by
        obtain ⟨i, hi⟩ := List.mem_iff_getElem?.1 (HPM.out.mem_iff.2 hs)
        exact (HS.out V ((HC2.out.trans HC4.out).trans hV) i s hi).2)
      have HW4 : Hid (Chg [] W w4) := Lib.hid (HC2.out.trans HC4.out)
      clear hL2 hperm
      go_wp2_with fail
      refine (link_any (c := c) (HS.out _ HW4.out) HN.out (fun _ => rfl) HRN.out).mono ?_
      intro e w5 hpost
      obtain ⟨x5, p51, p52, p53, n51, n52, n53, c51, c52, c53, rfl, hf5, hc5⟩ := post_form2 hpost
      have HF5 := Lib.hid hf5
      have HC5 := Lib.hid hc5
      clear hf5 hc5 hpost
      obtain ⟨k1, hk1⟩ : ∃ k, k = errL L := ⟨_, rfl⟩
      rw [← hk1]
      have HK1 := Lib.hid hk1
      clear hk1
      go_upto_region 8 with (refine wpList_store_new a30 _ _ rfl rfl rfl rfl rfl rfl rfl rfl ?_)
      obtain ⟨F, hF⟩ : ∃ F, F = w5.heap.size := ⟨_, rfl⟩
      obtain ⟨V, hV⟩ : ∃ V, V = w5.alloc (.cells #[Value.int .u32 (x5 : Int), .slice p51 n51 c51, .slice p52 n52 c52, .slice p53 n53 c53] 30) := ⟨_, rfl⟩
      rw [← hV, ← hF]
      have HVF : Hid (∀ U, Chg [] V U → U.row? F = some #[Value.int .u32 (x5 : Int), .slice p51 n51 c51, .slice p52 n52 c52, .slice p53 n53 c53]) := Lib.hid fun U hU => (hU.row (row_lt (by rw [hV]; exact row_alloc_at _ _ _ _ hF)) (by simp)).trans (by rw [hV]; exact row_alloc_at _ _ _ _ hF)
      have H5V : Hid (Chg [] w5 V) := Lib.hid (by rw [hV]; exact (Chg.refl _ _).alloc _)
      clear hV hF
      go_wp2_with fail
      refine (link_any (c := c4) (HS4.out _ (HC5.out.trans H5V.out)) HN2.out (fun _ => rfl) (fun s hs => HRN.out s (HPM.out.mem_iff.2 hs))).mono ?_
      intro e w6 hpost
      obtain ⟨x6, p61, p62, p63, n61, n62, n63, c61, c62, c63, rfl, hf6, hc6⟩ := post_form2 hpost
      have HF6 := Lib.hid hf6
      have HC6 := Lib.hid hc6
      clear hf6 hc6 hpost
      obtain ⟨k2, hk2⟩ : ∃ k, k = errL L2 := ⟨_, rfl⟩
      rw [← hk2]
      have HK2 := Lib.hid hk2
      clear hk2
      go_upto_region 9 with (refine wpList_store_new a30 _ _ rfl rfl rfl rfl rfl rfl rfl rfl ?_)
      obtain ⟨G, hG⟩ : ∃ F, F = w6.heap.size := ⟨_, rfl⟩
      obtain ⟨U, hU⟩ : ∃ V, V = w6.alloc (.cells #[Value.int .u32 (x6 : Int), .slice p61 n61 c61, .slice p62 n62 c62, .slice p63 n63 c63] 30) := ⟨_, rfl⟩
      rw [← hU, ← hG]
      have hrU : U.row? G = some #[Value.int .u32 (x6 : Int), .slice p61 n61 c61, .slice p62 n62 c62, .slice p63 n63 c63] := by rw [hU]; exact row_alloc_at _ _ _ _ hG
      have HUG : Hid (∀ U', Chg [] U U' → U'.row? G = some #[Value.int .u32 (x6 : Int), .slice p61 n61 c61, .slice p62 n62 c62, .slice p63 n63 c63]) := Lib.hid fun U' hU' => (hU'.row (row_lt hrU) (by simp)).trans hrU
      have H6U : Hid (Chg [] w6 U) := Lib.hid (by rw [hU]; exact (Chg.refl _ _).alloc _)
      have HVU : Hid (Chg [] V U) := Lib.hid (HC6.out.trans H6U.out)
      have HWU : Hid (Chg [] W U) := Lib.hid (((HW4.out.trans HC5.out).trans H5V.out).trans HVU.out)
      clear hU hG hrU
      by_cases k0 : k1 = 0
      · have HE : Hid (errL L = 0) := Lib.hid (by rw [← HK1.out]; exact k0)
        have HE2 : Hid (errL L2 = 0) := Lib.hid ((err_perm HPM.out).2.2 HE.out)
        obtain rfl : k2 = 0 := by rw [HK2.out]; exact HE2.out
        subst k0
        obtain rfl : n63 = n53 := by rw [(HF6.out HE2.out).1, (HF5.out HE.out).1, (err_perm HPM.out).1]
        obtain rfl : n62 = n52 := by rw [(HF6.out HE2.out).2.1, (HF5.out HE.out).2.1, (err_perm HPM.out).2.1]
        have HM1 := Lib.hid (means_any (c := c) (HS.out _ HWU.out) HN.out (fun _ => rfl) HRN.out HCAP.out HE.out (FileOk.keep (HF5.out HE.out).2.2 (H5V.out.trans HVU.out)))
        go_upto_region 11 with (fail)
        have HL1 : Hid (∀ (q : Nat) (u : Value), [Value.int .u32 (x5 : Int), .slice p51 n51 c51, .slice p52 n62 c52, .slice p53 n63 c53][q]? = some u → U.cell? ⟨F, 0 + q, none⟩ = some u) := Lib.hid fun q u hu => by rw [row_cell (HVF.out _ HVU.out), Nat.zero_add]; simpa using hu
        have HU7 : Hid (∀ w7, Chg [] U w7 → w7.cell? ⟨G, 0, none⟩ = some (.int .u32 (x6 : Int)) ∧ w7.cell? ⟨G, 1, none⟩ = some (.slice p61 n61 c61) ∧ w7.cell? ⟨G, 2, none⟩ = some (.slice p62 n62 c62) ∧ w7.cell? ⟨G, 3, none⟩ = some (.slice p63 n63 c63)) := Lib.hid fun w7 h => by
          have hr := HUG.out w7 h
          exact ⟨by rw [row_cell hr]; rfl, by rw [row_cell hr]; rfl, by rw [row_cell hr]; rfl, by rw [row_cell hr]; rfl⟩
        go_wp2_with (refine wpList_load_part a30 [Value.int .u32 (x5 : Int), .slice p51 n51 c51, .slice p52 n62 c52, .slice p53 n63 c53] rfl _ rfl rfl rfl HL1.out ?_)
        refine HM1.out.mono ?_
        rintro e w7 ⟨rfl, hc7⟩
        obtain ⟨g0, g1, g2, g3⟩ := HU7.out w7 hc7
        have HC7 := Lib.hid hc7
        clear hc7
        go_wp2_with fail
        refine (means_any (c := c4) (HS4.out _ (HC5.out.trans (H5V.out.trans (HVU.out.trans HC7.out)))) HN2.out (fun _ => rfl) (fun s hs => HRN.out s (HPM.out.mem_iff.2 hs)) (fun s hs => HCAP.out s (HPM.out.mem_iff.2 hs)) HE2.out (FileOk.keep (HF6.out HE2.out).2.2 (H6U.out.trans HC7.out))).mono ?_
        rintro e w8 ⟨rfl, hc8⟩
        clear g0 g1 g2 g3
        have h78 := HC7.out.trans hc8
        have f2 : w8.cell? ⟨F, 2, none⟩ = some (.slice p52 n62 c52) := by rw [row_cell (HVF.out _ (HVU.out.trans h78))]; rfl
        have f3 : w8.cell? ⟨F, 3, none⟩ = some (.slice p53 n63 c53) := by rw [row_cell (HVF.out _ (HVU.out.trans h78))]; rfl
        have g2 : w8.cell? ⟨G, 2, none⟩ = some (.slice p62 n62 c62) := by rw [row_cell (HUG.out _ h78)]; rfl
        have g3 : w8.cell? ⟨G, 3, none⟩ = some (.slice p63 n63 c63) := by rw [row_cell (HUG.out _ h78)]; rfl
        have HC8 := Lib.hid h78
        clear h78 hc8
        go_wp2_with fail
        go_ret
        exact ⟨rfl, HWU.out.trans HC8.out⟩
      · have k02 : ¬ k2 = 0 := by
          intro h
          exact k0 (by rw [HK1.out]; exact (err_perm HPM.out.symm).2.2 (by rw [← HK2.out]; exact h))
        have d1 : ((k1 : Int) == 0) = false := beq_eq_false_iff_ne.2 (by omega)
        have d2 : ((k2 : Int) == 0) = false := beq_eq_false_iff_ne.2 (by omega)
        have d3 : ¬ (k1 : Int) = 0 := by omega
        have d4 : ¬ (k2 : Int) = 0 := by omega
        by_cases k12 : k1 = k2
        · subst k12
          clear k0 k02
          go_wp2
          go_ret
          exact ⟨rfl, HWU.out⟩
        · have d5 : ((k1 : Int) == (k2 : Int)) = false := beq_eq_false_iff_ne.2 (by omega)
          have d6 : ¬ (k1 : Int) = (k2 : Int) := by omega
          clear k0 k02 k12
          go_wp2
          go_ret
          exact ⟨rfl, HWU.out⟩
end Go.Proofs.L
