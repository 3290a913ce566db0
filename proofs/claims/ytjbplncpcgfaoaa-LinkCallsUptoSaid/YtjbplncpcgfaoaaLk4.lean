/- Proved here: lemmas and contracts (Lk4) for the laws of this seat, for all values of the stated types; no further condition. -/
import Derived.Test.YtjbplncpcgfaoaaLk3
import Derived.Laws.AppendOwnNone
import Derived.Deep.AppendLies
import Derived.Test.YtjbplncpcgfaoaaApp
open Go Go.RowKit Go.Lib
namespace Go.Proofs.L
attribute [local irreducible] wpT
/-! segments: code, and data with zeros behind -/
theorem app_srcL {P : Program} {w : World} {ops : Array Oper} {rest : List Oper} {o : Oper} {a : Act} {Q : Exit → Act → World → Prop} (hgd : o.guard = none) (s x : Operand) (t e : TypeId) (k : IntKind) (bytes : Nat)
    (ho : o.op = .call { callee := .builtin .append, args := #[s, x], argTypes := #[t, t] }) (ht : P.underlying t = some (.slice e)) (hI : (P.info? e).map (fun i => (i.zero, i.size, i.bytes)) = some (some (.int k 0), 1, bytes)) (hb8 : bytes ≤ 8)
    (base : Nat) (v : Value) (n : Nat) (L : List Nat) (hs : a.eval s = v) (hown : w.ownsRow base e 1 v n (L.map fun x : Nat => Value.int k (x : Int)))
    (pp : Option Addr) (m c : Nat) (M : List Nat) (hx : a.eval x = .slice pp m c) (hl : M.length = m) (hnone : pp = none → m = 0 ∧ c = 0) (hsome : ∀ ad, pp = some ad → ∀ (j y : Nat), M[j]? = some y → w.cell? (ad.add j) = some (.int k (y : Int))) (hn : n + m < 100000000) (hbase : base ≤ w.heap.size)
    (h : ∀ v' w', w'.ownsRow base e 1 v' (n + m) ((L ++ M).map fun x : Nat => Value.int k (x : Int)) → w.grownBy w' v.ownBlock → (∀ g, v'.ownBlock = some g → v.ownBlock = some g ∨ w.heap.size ≤ g) → wpList P ops Q rest (a.put o.dst v') w') : wpList P ops Q (o :: rest) a w := by
  obtain ⟨i, hi, hz, h1, h2⟩ := info_parts hI
  cases pp with
  | none =>
    obtain ⟨rfl, rfl⟩ := hnone rfl
    obtain rfl := List.eq_nil_of_length_eq_zero hl
    exact wpList_append_own_none hgd s x t ho base e i 1 ht hi v n _ hs hown hx (h v w (by simpa using hown) (World.grownBy.refl _ _) fun g hg => .inl hg)
  | some ad =>
    by_cases hm : 0 < m
    · refine wpList_append_lies w hgd s x t ho base e i (.int k 0) 1 bytes ht hi hz h1 h2 rfl (by decide) v n _ hs hown ad m c (M.map fun x : Nat => Value.int k (x : Int)) hx (by simp [hl]) (fun j u hu => ?_) (natU_one k M) hm (by unfold maxLen; omega) (by
        have : (n + m) * bytes ≤ 100000000 * 8 := Nat.mul_le_mul (by omega) hb8
        omega) hbase _ rfl (fun g cap w' q1 q2 q3 _ => h _ w' (by rw [List.map_append]; exact q1) q2 (fun g' hg' => by
          simp only [Value.ownBlock] at hg'
          obtain rfl := Option.some.inj hg'
          exact q3.imp id (fun e => Nat.le_of_eq e.symm)))
      rw [List.getElem?_map] at hu
      cases hq : M[j]? with
      | none => rw [hq] at hu; cases hu
      | some y =>
        rw [hq] at hu
        obtain rfl := Option.some.inj hu
        exact hsome ad rfl j y hq
    · obtain rfl : m = 0 := by omega
      obtain rfl := List.eq_nil_of_length_eq_zero hl
      have hv : ∃ b cap, v = .slice b n cap ∧ n ≤ cap := by
        rcases hown.2 with ⟨h1, h2⟩ | ⟨g, cap, cur, h1, _, _, h2, _⟩
        · exact ⟨none, 0, by rw [h1, h2], by omega⟩
        · exact ⟨_, cap, h1, h2⟩
      obtain ⟨b, cap, hv, hc⟩ := hv
      refine wpList_plain hgd fun K hK => ?_
      have hrun := run_append_zero (P := P) w t o.type e i ht hi b n cap hc (some ad) c
      unfold Oper.wp execOp
      simp only [ho, resolve, invoke, builtin, Sem.run_bind, Sem.run_pure, Result.andThen_ok, List.map_toArray, List.map_cons, List.map_nil, hs, hx]
      rw [hv, hrun]
      exact hK _ _ (h _ w (by rw [← hv]; simpa using hown) (World.grownBy.refl _ _) fun g hg => .inl (by rw [hv]; exact hg))
theorem app_struct {P : Program} {w : World} {ops : Array Oper} {rest : List Oper} {o : Oper} {a : Act} {Q : Exit → Act → World → Prop} (hgd : o.guard = none) (s x : Operand) (t e : TypeId) (z : Value) (size bytes : Nat)
    (ho : o.op = .call { callee := .builtin .append, args := #[s, x], argTypes := #[t, t] }) (ht : P.underlying t = some (.slice e)) (hI : (P.info? e).map (fun i => (i.zero, i.size, i.bytes)) = some (some z, size, bytes)) (hzs : z.cells.size = size) (hsz : 0 < size) (hb8 : bytes ≤ 64)
    (base : Nat) (v : Value) (n : Nat) (xs : List Value) (hs : a.eval s = v) (hown : w.ownsRow base e size v n xs)
    (g : Nat) (news : List Value) (hx : a.eval x = .slice (some ⟨g, 0, none⟩) 1 1) (hl : news.length = size) (hr : w.row? g = some news.toArray) (h1 : ∀ u ∈ news, u.oneCell' = true) (hn : n < 100000) (hbase : base ≤ w.heap.size)
    (h : ∀ v' w', w'.ownsRow base e size v' (n + 1) (xs ++ news) → w.grownBy w' v.ownBlock → wpList P ops Q rest (a.put o.dst v') w') : wpList P ops Q (o :: rest) a w := by
  obtain ⟨i, hi, hz, h2, h3⟩ := info_parts hI
  refine wpList_append_own w hgd s x t ho base e i z size bytes ht hi hz h2 h3 hzs hsz v n xs hs hown ⟨g, 0, none⟩ 1 1 news hx (by rw [Nat.one_mul]; exact hl) (news_row hr) h1 (by unfold maxLen; omega) (by
    have : (n + 1) * bytes ≤ 100001 * 64 := Nat.mul_le_mul (by omega) hb8
    omega) hbase (fun v' w' q1 q2 _ => h v' w' q1 q2)
theorem info5 : (Try.prog.info? 5).map (fun i => (i.zero, i.size, i.bytes)) = some (some (.int .u8 0), 1, 1) := by kernel_rfl
theorem info47 : (Try.prog.info? 47).map (fun i => (i.zero, i.size, i.bytes)) = some (some (.agg #[.int .u32 0, .slice none 0 0, .int .u32 0, .int .i64 0]), 4, 48) := by kernel_rfl
theorem info44 : (Try.prog.info? 44).map (fun i => (i.zero, i.size, i.bytes)) = some (some (.agg #[.int .u32 0, .int .i64 0, .int .i64 0, .int .u32 0]), 4, 32) := by kernel_rfl
theorem info25 : (Try.prog.info? 25).map (fun i => (i.zero, i.size, i.bytes)) = some (some (.int .u32 0), 1, 4) := by kernel_rfl
theorem a47 : aggT Try.prog 47 4 := aggT_of (by kernel_rfl)
def u8L (L : List Nat) : List Value := L.map fun x : Nat => Value.int .u8 (x : Int)
def codeB (L : List Ob) : List Nat := L.flatMap (·.C)
def dataB (L : List Ob) : List Nat := L.flatMap (·.D)
theorem codeB_succ {L : List Ob} {i : Nat} {s : Ob} (h : L[i]? = some s) : codeB (L.take (i + 1)) = codeB (L.take i) ++ s.C := by
  unfold codeB; rw [List.take_add_one, h]; simp
theorem dataB_succ {L : List Ob} {i : Nat} {s : Ob} (h : L[i]? = some s) : dataB (L.take (i + 1)) = dataB (L.take i) ++ s.D := by
  unfold dataB; rw [List.take_add_one, h]; simp
theorem codeB_le {L : List Ob} (h : ∀ s ∈ L, s.C.length ≤ 16384) : ∀ i, (codeB (L.take i)).length ≤ 16384 * i
  | 0 => by simp [codeB]
  | i + 1 => by
    have h1 := codeB_le h i
    cases hq : L[i]? with
    | none => rw [List.take_add_one, hq]; simp; omega
    | some s => rw [codeB_succ hq, List.length_append]; have := h s (List.mem_of_getElem? hq); omega
theorem dataB_le {L : List Ob} (h : ∀ s ∈ L, s.D.length ≤ 16384) : ∀ i, (dataB (L.take i)).length ≤ 16384 * i
  | 0 => by simp [dataB]
  | i + 1 => by
    have h1 := dataB_le h i
    cases hq : L[i]? with
    | none => rw [List.take_add_one, hq]; simp; omega
    | some s => rw [dataB_succ hq, List.length_append]; have := h s (List.mem_of_getElem? hq); omega
theorem addr_at (b o j : Nat) : (⟨b, o, none⟩ : Addr).add j = ⟨b, o + j, none⟩ := by unfold Addr.add; split <;> simp_all
def segC (a : Nat) (v : Value) (n : Nat) (r : Int) : List Value := [.int .u32 (a : Int), v, .int .u32 (n : Int), .int .i64 r]
/-- what segments returns -/
structure SegsOk (w : World) (base : Nat) (v : Value) (fb ft : Nat → Nat) (C D : List Nat) : Prop where
  ex : ∃ vc vd, w.ownsRow base 5 1 vc C.length (u8L C) ∧ w.ownsRow base 5 1 vd D.length (u8L D) ∧
    w.ownsRow base 47 4 v (if 0 < ft 1 + ft 2 then 2 else 1) (segC (fb 0) vc (ft 0) 5 ++ if 0 < ft 1 + ft 2 then segC (fb 1) vd (ft 1 + ft 2) 3 else [])
set_option maxRecDepth 100000 in
set_option maxHeartbeats 4000000 in
theorem segs_any {W : World} {p : Option Addr} {b o n c : Nat} {L : List Ob} (hS : ObsAt W b o L) (hn : L.length = n) (h16 : n ≤ 16) (hp : 0 < n → p = some ⟨b, o, none⟩) (hz : ∀ s ∈ L, s.C.length ≤ 16384 ∧ s.D.length ≤ 16384) (fb ft : Nat → Nat) (hft : ft 1 + ft 2 < 4294967296) :
    Calls Try.prog 20 #[.slice p n c, .agg (tRow fb), .agg (tRow ft)] W fun e w' => ∃ v, e = .returned v ∧ SegsOk w' W.heap.size v fb ft (codeB L) (dataB L) ∧ Chg [] W w' := by
  have HS : Hid (∀ V, Chg [] W V → ObsAt V b o L) := Lib.hid fun V hV => hS.keep hV
  have HN := Lib.hid hn
  have H16 := Lib.hid h16
  have HSZ := Lib.hid hz
  have HFT := Lib.hid hft
  have HP := Lib.hid hp
  clear hS hn h16 hz hft hp
  go_enter Try.func20, Try.ntmps20
  go_upto_region 1 with (fail)
  obtain ⟨T4, hT4⟩ : ∃ H, H = W.heap.size := ⟨_, rfl⟩
  obtain ⟨V, hV⟩ : ∃ V, V = (W.alloc (.cells (tRow fb) 71)).alloc (.cells (tRow ft) 71) := ⟨_, rfl⟩
  rw [← hV, ← hT4]
  have HR4 : Hid (V.row? T4 = some (tRow fb)) := Lib.hid (by
    rw [hV, row_alloc_past _ _ _ (by simp; omega)]; exact row_alloc_at _ _ _ _ hT4)
  have HR5 : Hid (V.row? (T4 + 1) = some (tRow ft)) := Lib.hid (by
    rw [hV]; exact row_alloc_at _ _ _ _ (by simp; omega))
  have HCV : Hid (Chg [] W V) := Lib.hid (by rw [hV]; exact ((Chg.refl _ _).alloc _).alloc _)
  obtain ⟨T5, hT5⟩ : ∃ T, T = T4 + 1 := ⟨_, rfl⟩
  rw [← hT5] at HR5 ⊢
  have HB : Hid (W.heap.size ≤ T4 ∧ W.heap.size ≤ T5 ∧ T4 ≠ T5) := Lib.hid ⟨by omega, by omega, by omega⟩
  obtain ⟨S0, hS0⟩ : ∃ S0, S0 = V.heap.size := ⟨_, rfl⟩
  have HS0 : Hid (T4 < S0 ∧ T5 < S0 ∧ W.heap.size ≤ S0) := Lib.hid ⟨by rw [hS0]; exact row_lt HR4.out, by rw [hS0]; exact row_lt HR5.out, by rw [hS0]; exact HCV.out.size⟩
  have HS1 : Hid (V.heap.size = S0) := Lib.hid hS0.symm
  clear hT4 hV hT5 hS0
  go_wp2_with fail
  go_loopw [15, 7, 8] (fun i v7 v8 wr => ∃ j : Nat, j ≤ n ∧ i = .int .i64 (j : Int) ∧ wr.row? T4 = some (tRow fb) ∧ wr.row? T5 = some (tRow ft) ∧ wr.ownsRow S0 5 1 v7 (codeB (L.take j)).length (u8L (codeB (L.take j))) ∧ wr.ownsRow S0 5 1 v8 (dataB (L.take j)).length (u8L (dataB (L.take j))) ∧ (∀ g, v7.ownBlock = some g → v8.ownBlock = some g → False) ∧ S0 ≤ wr.heap.size ∧ Chg [] W wr) (fun i _ _ _ => n - (intOf i).toNat)
  case atStart => exact ⟨0, Nat.zero_le _, rfl, HR4.out, HR5.out, World.ownsRow_nil _ _ _ _, World.ownsRow_nil _ _ _ _, fun g h _ => by simp [Value.ownBlock] at h, Nat.le_of_eq HS1.out.symm, HCV.out⟩
  case round =>
    obtain ⟨j, hj, rfl, h4, h5, h7, h8, hne, hsz, hch⟩ := hrel
    have HJ := Lib.hid hj
    have HX4 := Lib.hid h4
    have HX5 := Lib.hid h5
    have HX7 := Lib.hid h7
    have HX8 := Lib.hid h8
    have HNE := Lib.hid hne
    have HZS := Lib.hid hsz
    have HXC := Lib.hid hch
    clear hj h4 h5 h7 h8 hne hsz hch
    by_cases hjn : j < n
    · have HJN := Lib.hid hjn
      have dJ : (j : Int) < (n : Int) := by omega
      have HWJ := Lib.hid (wrapK j (by have := H16.out; omega))
      obtain ⟨s, hs⟩ : ∃ s, L[j]? = some s := ⟨_, List.getElem?_eq_getElem (by rw [HN.out]; exact hjn)⟩
      have HS2 := Lib.hid hs
      have HZZ := Lib.hid (HSZ.out s (List.mem_of_getElem? hs))
      have HSC := Lib.hid (HS.out _ HXC.out j s hs).1
      obtain rfl := HP.out (by omega)
      obtain ⟨Z, hZ⟩ : ∃ Z, Z = wr.alloc (.cells (obA s) 53) := ⟨_, rfl⟩
      obtain ⟨B, hB⟩ : ∃ b, b = wr.heap.size := ⟨_, rfl⟩
      have hc2 : Chg [] wr Z := by rw [hZ]; exact (Chg.refl _ _).alloc _
      have HRB : Hid (Z.row? B = some (obA s)) := Lib.hid (by rw [hZ]; exact row_alloc_at _ _ _ _ hB)
      have HOW : Hid (∀ V, Chg [] W V → ObOk V s) := Lib.hid fun V hV => (HS.out V hV j s hs).2
      have HOK : Hid (∀ V, Chg [] Z V → ObOk V s) := Lib.hid fun V hV => (HS.out _ (HXC.out.trans (hc2.trans hV)) j s hs).2
      have HY4 : Hid (Z.row? T4 = some (tRow fb)) := Lib.hid ((hc2.row (row_lt HX4.out) (by simp)).trans HX4.out)
      have HY5 : Hid (Z.row? T5 = some (tRow ft)) := Lib.hid ((hc2.row (row_lt HX5.out) (by simp)).trans HX5.out)
      have HY7 := Lib.hid (ownsRow_chg HX7.out hc2 (by intro k _; simp))
      have HY8 := Lib.hid (ownsRow_chg HX8.out hc2 (by intro k _; simp))
      have HYC : Hid (Chg [] W Z) := Lib.hid (HXC.out.trans hc2)
      have HYZ : Hid (S0 ≤ Z.heap.size ∧ B < Z.heap.size) := Lib.hid ⟨Nat.le_trans HZS.out hc2.size, row_lt HRB.out⟩
      have HBN : Hid (∀ k, u7.ownBlock = some k ∨ u8.ownBlock = some k → k ≠ B) := Lib.hid (by
        intro k hk e
        rcases hk with h | h
        · have := (HX7.out.lt k h).2; omega
        · have := (HX8.out.lt k h).2; omega)
      have HZ2 := Lib.hid hZ
      have HB2 := Lib.hid hB
      clear hs hZ hB hc2 hjn
      go_upto_region 5 with (first | (refine wpList_load_part a53 (obA s).toList rfl _ rfl rfl rfl HSC.out ?_) | (refine wpList_store_new a53 _ _ rfl rfl rfl rfl rfl rfl rfl rfl ?_))
      rw [← HZ2.out, ← HB2.out]
      clear HZ2 HB2 dJ
      have c0 : Hid (Z.drew.cell? ⟨B, 0, none⟩ = some (.slice s.pc s.nc s.cc)) := Lib.hid (show Z.cell? _ = _ by rw [row_cell HRB.out]; rfl)
      have c1 : Hid (Z.drew.cell? ⟨B, 1, none⟩ = some (.slice s.pd s.nd s.cd)) := Lib.hid (show Z.cell? _ = _ by rw [row_cell HRB.out]; rfl)
      have HLC : Hid ((codeB (L.take j)).length ≤ 262144) := Lib.hid (by have := codeB_le (fun s hs => (HSZ.out s hs).1) j; have := H16.out; have := HJN.out; omega)
      have HLD : Hid ((dataB (L.take j)).length ≤ 262144) := Lib.hid (by have := dataB_le (fun s hs => (HSZ.out s hs).2) j; have := H16.out; have := HJN.out; omega)
      refine wp_region_C (fun w' => w'.cell? ⟨B, 0, none⟩ = some (.slice s.pc s.nc s.cc) ∧ w'.cell? ⟨B, 1, none⟩ = some (.slice s.pd s.nd s.cd)) [(0, 0), (1, 0), (2, 1), (4, 0), (5, 0), (6, 1), (3, 2), (7, 3), (8, 3), (9, 3)] rfl (by kernel_rfl) ?hSA ?hTA
      case hSA => exact ⟨c0.out, c1.out⟩
      refine wpT_pureD (v := ?_) (some 19) rfl rfl (by rfl) (fun w' => ?_) ?_
      rotate_left
      · (go_simp; try with_reducible rfl)
      try simp only [Act.put, List.setIfInBounds_toArray, List.set_cons_zero, List.set_cons_succ]
      refine wpT_pureD (v := ?_) (some 20) rfl rfl (by rfl) (fun w' => ?_) ?_
      rotate_left
      · (go_simp; try with_reducible rfl)
      try simp only [Act.put, List.setIfInBounds_toArray, List.set_cons_zero, List.set_cons_succ]
      refine wpT_readD (v := ?_) (some 21) rfl rfl (by rfl) (fun w' hw => ?_) ?_
      rotate_left
      · (obtain ⟨q0, q1⟩ := hw; go_simp; try with_reducible rfl)
      try simp only [Act.put, List.setIfInBounds_toArray, List.set_cons_zero, List.set_cons_succ]
      refine wpT_pureD (v := ?_) (some 23) rfl rfl (by rfl) (fun w' => ?_) ?_
      rotate_left
      · (go_simp; try with_reducible rfl)
      try simp only [Act.put, List.setIfInBounds_toArray, List.set_cons_zero, List.set_cons_succ]
      refine wpT_pureD (v := ?_) (some 24) rfl rfl (by rfl) (fun w' => ?_) ?_
      rotate_left
      · (go_simp; try with_reducible rfl)
      try simp only [Act.put, List.setIfInBounds_toArray, List.set_cons_zero, List.set_cons_succ]
      refine wpT_readD (v := ?_) (some 25) rfl rfl (by rfl) (fun w' hw => ?_) ?_
      rotate_left
      · (obtain ⟨q0, q1⟩ := hw; go_simp; try with_reducible rfl)
      try simp only [Act.put, List.setIfInBounds_toArray, List.set_cons_zero, List.set_cons_succ]
      refine wpT_eff rfl (by rfl) (fun K hK => ?_)
      have HO := Lib.hid (HOK.out Z.drew (Chg.refl _ _).drew)
      have HD7 := Lib.hid (ownsRow_chg HY7.out (Chg.refl [] Z).drew (by intro k _; simp))
      refine (app_srcL rfl _ _ 36 5 .u8 1 rfl Try.underlying36 info5 (by decide) S0 _ _ (codeB (L.take j)) rfl HD7.out s.pc s.nc s.cc s.C rfl HO.out.Cn HO.out.Co (fun ad h i y hy => by
        have h0 : 0 < s.nc := by have := (List.getElem?_eq_some_iff.1 hy).1; have := HO.out.Cn; omega
        have h1 := HO.out.Cp h0
        rw [h] at h1
        obtain rfl := Option.some.inj h1
        rw [addr_at]
        exact (HO.out.Ca i y hy).1) (by have := HLC.out; have := HZZ.out.1; have := HO.out.Cn; omega) (Nat.le_trans HYZ.out.1 (Chg.refl [] Z).drew.size) ?_)
      intro v7 w7 hx1 hx2 hx3
      have hc7 := grown_chg hx2
      have HO7 : Hid (w7.ownsRow S0 5 1 v7 (codeB (L.take (j + 1))).length (u8L (codeB (L.take (j + 1))))) := Lib.hid (by
        rw [codeB_succ HS2.out, List.length_append, HO.out.Cn]; exact hx1)
      have HG7 : Hid (∀ b x, Z.drew.row? b = some x → u7.ownBlock ≠ some b → w7.row? b = some x) := Lib.hid fun b x h1 h2 => (hc7.row (row_lt h1) (by rw [Option.mem_toList]; exact h2)).trans h1
      have HN7 : Hid (∀ b, b < S0 → u7.ownBlock ≠ some b) := Lib.hid fun b hb h => by have := (HX7.out.lt b h).1; omega
      have HR7 : Hid (w7.row? B = some (obA s)) := Lib.hid (HG7.out B _ HRB.out fun h => HBN.out B (.inl h) rfl)
      have HC7 : Hid (Chg [] W w7) := Lib.hid (chg_grown (HYC.out.trans (Chg.refl [] Z).drew) hx2 (fun k hk => by have := (HX7.out.lt k hk).1; have := HS0.out.2.2; omega))
      have H47 : Hid (w7.row? T4 = some (tRow fb)) := Lib.hid (HG7.out T4 _ HY4.out (HN7.out T4 HS0.out.1))
      have H57 : Hid (w7.row? T5 = some (tRow ft)) := Lib.hid (HG7.out T5 _ HY5.out (HN7.out T5 HS0.out.2.1))
      have HO8 : Hid (w7.ownsRow S0 5 1 u8 (dataB (L.take j)).length (u8L (dataB (L.take j)))) := Lib.hid (ownsRow_chg (ownsRow_chg HY8.out (Chg.refl [] Z).drew (by intro k _; simp)) hc7 (by intro k hk h; rw [Option.mem_toList] at h; exact HNE.out k h hk))
      have HZ7 : Hid (S0 ≤ w7.heap.size ∧ Z.heap.size ≤ w7.heap.size) := Lib.hid ⟨Nat.le_trans HYZ.out.1 hc7.size, hc7.size⟩
      have HN78 : Hid (∀ g, v7.ownBlock = some g → u8.ownBlock = some g → False) := Lib.hid (by
        intro g h1 h2
        rcases hx3 g h1 with h | h
        · exact HNE.out g h h2
        · have h3 := (HY8.out.lt g h2).2; have h4 := (Chg.refl [] Z).drew.size; omega)
      clear hx1 hx2 hx3 hc7
      go_wp2_with fail
      refine hK _ _ ⟨by rw [row_cell HR7.out]; rfl, by rw [row_cell HR7.out]; rfl⟩ ?_
      clear hK K
      try simp only [Act.put, List.setIfInBounds_toArray, List.set_cons_zero, List.set_cons_succ]
      refine wpT_brk rfl (by rfl) (fun K hK => ?_)
      have HOB7 := Lib.hid (HOW.out _ HC7.out)
      refine (app_srcL rfl _ _ 36 5 .u8 1 rfl Try.underlying36 info5 (by decide) S0 _ _ (dataB (L.take j)) rfl HO8.out s.pd s.nd s.cd s.D rfl HO.out.Dn HO.out.Do (fun ad h i y hy => by
        have h0 : 0 < s.nd := by have := (List.getElem?_eq_some_iff.1 hy).1; have := HO.out.Dn; omega
        have h1 := HO.out.Dp h0
        rw [h] at h1
        obtain rfl := Option.some.inj h1
        rw [addr_at]
        exact (HOB7.out.Da i y hy).1) (by have := HLD.out; have := HZZ.out.2; have := HO.out.Dn; omega) HZ7.out.1 ?_)
      intro v8 w8 hx1 hx2 hx3
      have hc8 := grown_chg hx2
      have HO88 : Hid (w8.ownsRow S0 5 1 v8 (dataB (L.take (j + 1))).length (u8L (dataB (L.take (j + 1))))) := Lib.hid (by
        rw [dataB_succ HS2.out, List.length_append, HO.out.Dn]; exact hx1)
      have HG8 : Hid (∀ b x, b < S0 → w7.row? b = some x → w8.row? b = some x) := Lib.hid fun b x h1 h2 => (hc8.row (row_lt h2) (by
        rw [Option.mem_toList]; intro h; have := (HX8.out.lt b h).1; omega)).trans h2
      have HC8 : Hid (Chg [] W w8) := Lib.hid (chg_grown HC7.out hx2 (fun k hk => by have := (HX8.out.lt k hk).1; have := HS0.out.2.2; omega))
      have H48 : Hid (w8.row? T4 = some (tRow fb)) := Lib.hid (HG8.out T4 _ HS0.out.1 H47.out)
      have H58 : Hid (w8.row? T5 = some (tRow ft)) := Lib.hid (HG8.out T5 _ HS0.out.2.1 H57.out)
      have HO78 : Hid (w8.ownsRow S0 5 1 v7 (codeB (L.take (j + 1))).length (u8L (codeB (L.take (j + 1))))) := Lib.hid (ownsRow_chg HO7.out hc8 (by intro k hk h; rw [Option.mem_toList] at h; exact HN78.out k hk h))
      have HZ8 : Hid (S0 ≤ w8.heap.size) := Lib.hid (Nat.le_trans HZ7.out.1 hc8.size)
      have HN88 : Hid (∀ g, v7.ownBlock = some g → v8.ownBlock = some g → False) := Lib.hid (by
        intro g h1 h2
        rcases hx3 g h2 with h | h
        · exact HN78.out g h1 h
        · have h3 := (HO7.out.lt g h1).2; omega)
      clear hx1 hx2 hx3 hc8
      go_wp2_with fail
      refine wpT_brk rfl (by rfl) (fun K hK => ?_)
      go_wp2_with fail
      refine wpT_brk rfl (by rfl) (fun K hK => ?_)
      go_wp2_with fail
      refine wpT_end ?_
      go_wp2_with fail
      case roundEnd => exact ⟨⟨j + 1, HJN.out, by rw [HWJ.out], H48.out, H58.out, HO78.out, HO88.out, HN88.out, HZ8.out, HC8.out⟩, by rw [HWJ.out]; simp only [intOf, Int.toNat_natCast]; have := HJN.out; omega⟩
    · obtain rfl : j = n := by have := HJ.out; omega
      have dJ : ¬ (j : Int) < (j : Int) := by omega
      have e0 : L.take j = L := List.take_of_length_le (by have := HN.out; omega)
      have HX7' := Lib.hid HX7.out
      have HX8' := Lib.hid HX8.out
      rw [e0] at HX7' HX8'
      have ca0 : wr.cell? ⟨T4, 0, none⟩ = some (.int .u32 (fb 0 : Int)) := by rw [row_cell HX4.out]; rfl
      have ca1 : wr.cell? ⟨T4, 1, none⟩ = some (.int .u32 (fb 1 : Int)) := by rw [row_cell HX4.out]; rfl
      have cb0 : wr.cell? ⟨T5, 0, none⟩ = some (.int .u32 (ft 0 : Int)) := by rw [row_cell HX5.out]; rfl
      have cb1 : wr.cell? ⟨T5, 1, none⟩ = some (.int .u32 (ft 1 : Int)) := by rw [row_cell HX5.out]; rfl
      have cb2 : wr.cell? ⟨T5, 2, none⟩ = some (.int .u32 (ft 2 : Int)) := by rw [row_cell HX5.out]; rfl
      have w1 : IntKind.u32.wrap ((ft 1 : Int) + (ft 2 : Int)) = ((ft 1 + ft 2 : Nat) : Int) := u32add HFT.out
      clear hjn e0 HX7 HX8
      obtain ⟨p7, q7, rfl, -⟩ := own_form HX7'.out
      obtain ⟨p8, q8, rfl, -⟩ := own_form HX8'.out
      go_upto_region 8 with (fail)
      clear ca0 ca1 cb0 cb1 cb2 w1
      obtain ⟨g, hg⟩ : ∃ g, g = wr.heap.size := ⟨_, rfl⟩
      obtain ⟨Z, hZ⟩ : ∃ Z, Z = wr.alloc (.cells #[.int .u32 (fb 0 : Int), .slice p7 (codeB L).length q7, .int .u32 (ft 0 : Int), .int .i64 5] 47) := ⟨_, rfl⟩
      rw [← hZ, ← hg]
      have hcz : Chg [] wr Z := by rw [hZ]; exact (Chg.refl _ _).alloc _
      have HOZ : Hid (Z.ownsRow W.heap.size 47 4 (.slice (some ⟨g, 0, none⟩) 1 1) 1 (segC (fb 0) (.slice p7 (codeB L).length q7) (ft 0) 5)) := Lib.hid (by
        rw [hZ, hg]; exact own_new (by have := HZS.out; have := HS0.out.2.2; omega) rfl (by decide))
      have HC9 : Hid (Chg [] W Z) := Lib.hid (HXC.out.trans hcz)
      have HX79 := Lib.hid (own_base (ownsRow_chg HX7'.out hcz (by intro k _; simp)) HS0.out.2.2)
      have HX89 := Lib.hid (own_base (ownsRow_chg HX8'.out hcz (by intro k _; simp)) HS0.out.2.2)
      have HGN : Hid (∀ k, (Value.slice p7 (codeB L).length q7).ownBlock = some k ∨ (Value.slice p8 (dataB L).length q8).ownBlock = some k → k ≠ g) := Lib.hid (by
        intro k hk
        rcases hk with h | h
        · have := (HX7'.out.lt k h).2; omega
        · have := (HX8'.out.lt k h).2; omega)
      have ca1 : Z.cell? ⟨T4, 1, none⟩ = some (.int .u32 (fb 1 : Int)) := by rw [row_cell ((hcz.row (row_lt HX4.out) (by simp)).trans HX4.out)]; rfl
      have HSZ9 : Hid (W.heap.size ≤ Z.heap.size) := Lib.hid HC9.out.size
      have cb1 : Z.cell? ⟨T5, 1, none⟩ = some (.int .u32 (ft 1 : Int)) := by rw [row_cell ((hcz.row (row_lt HX5.out) (by simp)).trans HX5.out)]; rfl
      have cb2 : Z.cell? ⟨T5, 2, none⟩ = some (.int .u32 (ft 2 : Int)) := by rw [row_cell ((hcz.row (row_lt HX5.out) (by simp)).trans HX5.out)]; rfl
      clear hZ hg hcz
      obtain ⟨t, ht⟩ : ∃ t, t = ft 1 + ft 2 := ⟨_, rfl⟩
      have w1 : IntKind.u32.wrap ((ft 1 : Int) + (ft 2 : Int)) = (t : Int) := by rw [ht]; exact u32add HFT.out
      have HTT := Lib.hid ht
      clear ht
      go_upto_region 9 with (fail)
      have ht := HTT.out
      clear cb1 cb2 w1 HTT
      by_cases h0 : 0 < t
      · have hI : (0 : Int) < (t : Int) := by omega
        have HT := Lib.hid ht
        clear ht
        go_wp2_with (at_builtin; refine (app_struct rfl _ _ 26 47 _ 4 48 rfl Try.underlying26 info47 rfl (by decide) (by decide) W.heap.size _ 1 _ rfl (HOZ.out.alloc _) Z.heap.size (segC (fb 1) (.slice p8 (dataB L).length q8) t 3) rfl rfl (row_alloc_at _ _ _ _ rfl) (by simp [segC, Value.oneCell']) (by decide) (by have := HSZ9.out; simp; omega) ?_))
        intro v9 w9 hx1 hx2
        have hc9 := grown_chg hx2
        have ha : Chg [] Z (Z.alloc (.cells #[.int .u32 (fb 1 : Int), .slice p8 (dataB L).length q8, .int .u32 (t : Int), .int .i64 3] 47)) := (Chg.refl _ _).alloc _
        have HV9 := Lib.hid hx1
        have HX7a := Lib.hid (ownsRow_chg (ownsRow_chg HX79.out ha (by intro k _; simp)) hc9 (by intro k hk h; rw [Option.mem_toList] at h; simp only [Value.ownBlock] at h; injection h with h; exact HGN.out k (.inl hk) h.symm))
        have HX8a := Lib.hid (ownsRow_chg (ownsRow_chg HX89.out ha (by intro k _; simp)) hc9 (by intro k hk h; rw [Option.mem_toList] at h; simp only [Value.ownBlock] at h; injection h with h; exact HGN.out k (.inr hk) h.symm))
        have HCa : Hid (Chg [] W w9) := Lib.hid (chg_grown (HC9.out.trans ha) hx2 (fun k hk => (HOZ.out.lt k hk).1))
        clear hx1 hx2 hc9 ha
        go_wp2
        go_ret
        refine ⟨_, rfl, ⟨_, _, HX7a.out, HX8a.out, ?_⟩, HCa.out⟩
        have h1 : 0 < ft 1 + ft 2 := by rw [← HT.out]; omega
        rw [if_pos h1, if_pos h1, ← HT.out]
        exact HV9.out
      · have hI : ¬ (0 : Int) < (t : Int) := by omega
        have HT := Lib.hid ht
        have HT0 := Lib.hid h0
        clear ht
        go_wp2
        go_ret
        refine ⟨_, rfl, ⟨_, _, HX79.out, HX89.out, ?_⟩, HC9.out⟩
        have h1 : ¬ 0 < ft 1 + ft 2 := by rw [← HT.out]; exact HT0.out
        rw [if_neg h1, if_neg h1, List.append_nil]
        exact HOZ.out
end Go.Proofs.L
