/- Proved here: lemmas and contracts (Rr6) for the laws of this seat, for all values of the stated types; no further condition. -/
import Derived.Test.YtjiiojbenbldlaaRam5
import Derived.Test.YtjiiojbenbldlaaR4
import Derived.Deep.AppendSrc
import Derived.Laws.AppendOwnNone
open Go Go.RowKit Go.Lib Go.Maps
namespace Go.Proofs.L
attribute [local irreducible] wpT
/-! Get of the program's memory; like -/
theorem app_src {P : Program} {w : World} {ops : Array Oper} {rest : List Oper} {o : Oper} {a : Act} {Q : Exit → Act → World → Prop} (hgd : o.guard = none) (s x : Operand) (t e : TypeId) (k : IntKind) (bytes : Nat)
    (ho : o.op = .call { callee := .builtin .append, args := #[s, x], argTypes := #[t, t] }) (ht : P.underlying t = some (.slice e)) (hI : (P.info? e).map (fun i => (i.zero, i.size, i.bytes)) = some (some (.int k 0), 1, bytes)) (hb8 : bytes ≤ 8)
    (base : Nat) (v : Value) (n : Nat) (L : List Nat) (hs : a.eval s = v) (hown : w.ownsRow base e 1 v n (L.map fun x : Nat => Value.int k (x : Int)))
    (pp : Option Addr) (m c : Nat) (M : List Nat) (hx : a.eval x = .slice pp m c) (hl : M.length = m) (hnone : pp = none → m = 0 ∧ c = 0) (hsome : ∀ ad, pp = some ad → ∀ (j y : Nat), M[j]? = some y → w.cell? (ad.add j) = some (.int k (y : Int))) (hn : n + m < 100000000) (hbase : base ≤ w.heap.size)
    (h : ∀ v' w', w'.ownsRow base e 1 v' (n + m) ((L ++ M).map fun x : Nat => Value.int k (x : Int)) → w.grownBy w' v.ownBlock → wpList P ops Q rest (a.put o.dst v') w') : wpList P ops Q (o :: rest) a w := by
  obtain ⟨i, hi, hz, h1, h2⟩ := info_parts hI
  cases pp with
  | none =>
    obtain ⟨rfl, rfl⟩ := hnone rfl
    obtain rfl := List.eq_nil_of_length_eq_zero hl
    exact wpList_append_own_none hgd s x t ho base e i 1 ht hi v n _ hs hown hx (h v w (by simpa using hown) (World.grownBy.refl _ _))
  | some ad =>
    refine wpList_append_own w hgd s x t ho base e i (.int k 0) 1 bytes ht hi hz h1 h2 rfl (by decide) v n _ hs hown ad m c (M.map fun x : Nat => Value.int k (x : Int)) hx (by simp [hl]) (fun j u hu => ?_) (natU_one k M) (by unfold maxLen; omega) (by
      have : (n + m) * bytes ≤ 100000000 * 8 := Nat.mul_le_mul (by omega) hb8
      omega) hbase (fun v' w' q1 q2 _ => h v' w' (by rw [List.map_append]; exact q1) q2)
    rw [List.getElem?_map] at hu
    cases hq : M[j]? with
    | none => rw [hq] at hu; cases hu
    | some y =>
      rw [hq] at hu
      obtain rfl := Option.some.inj hu
      exact hsome ad rfl j y hq
set_option maxRecDepth 100000 in
set_option maxHeartbeats 1600000 in
theorem get_ok (f : Nat → Nat) (a o n b : Nat) (ha : a = 2147483648 + o) (hr : o + n ≤ 65536) (w : World) (hw : w.row? b = some (mem f)) :
    Calls Try.prog 33 #[.pointer (some ⟨b, 0, none⟩), .int .u32 (a : Int), .int .u32 (n : Int)] w fun e w' => ∃ v, e = .returned (.tuple #[v, .int .i64 0]) ∧ w'.ownsRow w.heap.size 5 1 v n (u8L (gtL f o n)) ∧ Chg [] w w' := by
  have HHas := Lib.hid (has_any a n (by omega) (by omega) ⟨b, 0, none⟩ w)
  rw [show inRam a n = true from decide_eq_true (by omega)] at HHas
  obtain ⟨e, he⟩ : ∃ e, e = o + n := ⟨_, rfl⟩
  have w1 : IntKind.u32.wrap ((a : Int) - 2147483648) = (o : Int) := by rw [u32w]; omega
  have w2 : IntKind.u32.wrap ((o : Int) + (n : Int)) = (e : Int) := by rw [u32w]; omega
  have n1 : o ≤ e := by omega
  have n2 : e ≤ 65536 := by omega
  have i1 : (o : Int) ≤ (e : Int) := by omega
  have i2 : (e : Int) ≤ 65536 := by omega
  have en : e - o = n := by omega
  by_cases h65 : 65536 = o
  · obtain rfl : n = 0 := by omega
    obtain rfl := h65
    obtain rfl : e = 65536 := by omega
    have HW := Lib.hid hw
    clear he hw hr ha n1 n2 i1 i2 en
    go_enter Try.func33, Try.ntmps33
    go_wp2_with fail
    refine HHas.out.mono ?_
    rintro e' w' ⟨rfl, hw⟩
    obtain rfl := hw.symm
    clear hw
    go_wp2_with (at_builtin; refine app_src rfl _ _ 81 5 .u8 1 rfl Try.underlying81 info5 (by decide) w.heap.size (.slice none 0 0) 0 [] rfl (World.ownsRow_nil _ _ _ _) (some ⟨b, 0, none⟩) 0 0 (gtL f 65536 0) rfl (by simp [gtL]) (fun h => by cases h) (fun ad had j y hj => by simp [gtL] at hj) (by decide) (Nat.le_refl _) ?_)
    intro v1 w3 hx1 hx2
    try rw [List.nil_append, Nat.zero_add] at hx1
    have hc3 : Chg [] w w3 := chg_grown (Chg.refl _ _) hx2 (fun x hx => by cases hx)
    have HX := Lib.hid hx1
    have HC := Lib.hid hc3
    clear hx1 hx2 hc3
    go_wp2
    go_ret2
    exact ⟨_, rfl, HX.out, HC.out⟩
  · have HE := Lib.hid he
    have HW := Lib.hid hw
    have HR := Lib.hid hr
    clear he hw hr ha
    go_enter Try.func33, Try.ntmps33
    go_wp2_with fail
    refine HHas.out.mono ?_
    rintro e' w' ⟨rfl, hw⟩
    obtain rfl := hw.symm
    clear hw
    go_wp2_with (at_builtin; refine app_src rfl _ _ 81 5 .u8 1 rfl Try.underlying81 info5 (by decide) w.heap.size (.slice none 0 0) 0 [] rfl (World.ownsRow_nil _ _ _ _) (some ⟨b, o, none⟩) n (65536 - o) (gtL f o n) rfl (by simp [gtL]) (fun h => by cases h) (fun ad had j y hj => by
      have hjn : j < n := by have := (List.getElem?_eq_some_iff.1 hj).1; simpa [gtL] using this
      have hr := HR.out
      obtain rfl := Option.some.inj had
      rw [gtL_get f o n j hjn] at hj
      obtain rfl := Option.some.inj hj
      rw [addr_add]
      exact mem_row HW.out (o + j) (by omega)) (by have := HR.out; omega) (Nat.le_refl _) ?_)
    intro v1 w3 hx1 hx2
    try rw [List.nil_append, Nat.zero_add] at hx1
    have hc3 : Chg [] w w3 := chg_grown (Chg.refl _ _) hx2 (fun x hx => by cases hx)
    have HX := Lib.hid hx1
    have HC := Lib.hid hc3
    clear hx1 hx2 hc3
    go_wp2
    go_ret2
    exact ⟨_, rfl, HX.out, HC.out⟩
set_option maxRecDepth 100000 in
set_option maxHeartbeats 1600000 in
theorem like_any {w : World} {b p m N : Nat} {f : Nat → Nat} (hw : w.row? b = some (mem f)) (hR : RamAt w p m N f) :
    Calls Try.prog 20 #[.pointer (some ⟨b, 0, none⟩), .pointer (some ⟨p, 0, none⟩)] w fun e w' => e = .returned (.bool true) ∧ Chg [] w w' := by
  have HR := Lib.hid hR
  have HG := Lib.hid (get_ok f 2147483648 0 65536 b rfl (by decide) w hw)
  clear hw hR
  go_enter Try.func20, Try.ntmps20
  go_wp2_with fail
  refine HG.out.mono ?_
  rintro e w1 ⟨v, rfl, how, hc1⟩
  obtain ⟨q, c, rfl, hq⟩ := own_form how
  obtain ⟨g, rfl, hg⟩ := hq (by decide)
  have HOW := Lib.hid how
  have HGB := Lib.hid hg
  have HC1 := Lib.hid hc1
  clear how hg hc1 hq HG
  go_wp2_with fail
  go_loopw [16] (fun i wr => ∃ k : Nat, k ≤ 65536 ∧ i = .int .i64 (k : Int) ∧ Chg [] w1 wr) (fun i _ => 65536 - (intOf i).toNat)
  case atStart => exact ⟨0, Nat.zero_le _, rfl, Chg.refl _ _⟩
  case round =>
    obtain ⟨k, hk, rfl, hch⟩ := hrel
    have HK := Lib.hid hk
    have HCH := Lib.hid hch
    clear hk hch
    by_cases hkn : k < 65536
    · have HKN := Lib.hid hkn
      have dI : (k : Int) < 65536 := by omega
      obtain ⟨y, hy⟩ : ∃ y, y = f k := ⟨_, rfl⟩
      have cB : wr.cell? ⟨g, k, none⟩ = some (.int .u8 (y : Int)) := cell_keep (cellsAt HOW.out HGB.out k _ (by unfold u8L; rw [List.getElem?_map, gtL_get f 0 65536 k hkn, Nat.zero_add, ← hy]; rfl)) HCH.out (by simp)
      have HRW : Hid (RamAt wr p m N f) := Lib.hid (HR.out.keep (HC1.out.trans HCH.out) (by simp) (by simp))
      have cM : wr.cell? ⟨p, 0, none⟩ = some (.map (some m)) := by rw [row_cell HRW.out.row]; rfl
      have HW : Hid (wrap64 ((k : Int) + 1) = ((k + 1 : Nat) : Int)) := Lib.hid (wrap1 k (by omega))
      obtain ⟨D, hmo, hf⟩ := HRW.out.own
      have HMO := Lib.hid hmo
      have HF := Lib.hid hf
      have HKEY : Hid (keyOf Try.prog 3 (.int .i64 (2147483648 + (k : Int))) = some (keyN k)) := Lib.hid (by
        have e : (2147483648 : Int) + (k : Int) = ((2147483648 + k : Nat) : Int) := by omega
        rw [e]
        exact keyOf_int_mk Try.underlying3 (by simp [Lit.wf, IntKind.min, IntKind.max, IntKind.signed, IntKind.bits]; omega))
      have HY := Lib.hid hy
      clear hmo hf hy
      go_wp2_with (at_lookup; refine wpList_lookup_own_int (H := Unit) _ rfl _ _ 84 rfl 3 5 .u8 kd3 Try.underlying84 Try.underlying5 (ze5 _) m N D rfl HMO.out _ _ rfl HKEY.out ?_)
      intro c2 hat hwc
      have hc : c2 = (y : Int) := by
        have h1 := HF.out.at_ k HKN.out
        rw [hat, ← HY.out] at h1
        injection h1 with h1
        injection h1
      subst hc
      clear hat hwc hkn
      go_wp2
      case roundEnd => exact ⟨⟨k + 1, HKN.out, by rw [Int.natCast_add]; rfl, HCH.out⟩, by have := HKN.out; simp only [intOf]; omega⟩
    · have dI : ¬ (k : Int) < 65536 := by omega
      obtain rfl : k = 65536 := by have := HK.out; omega
      clear hkn
      go_wp2
      go_ret
      exact ⟨rfl, HC1.out.trans HCH.out⟩
end Go.Proofs.L
