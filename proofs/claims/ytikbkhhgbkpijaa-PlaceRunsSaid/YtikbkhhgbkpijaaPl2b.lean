/- Proved here: lemmas and contracts (Pl2b) for the laws of this seat, for all values of the stated types; no further condition. -/
import Derived.Test.YtikbkhhgbkpijaaPl2
import Derived.Deep.AppendSrc
import Derived.Laws.AppendOwnNone
import Derived.Laws.BytesArg
open Go Go.RowKit Go.Lib
namespace Go.Proofs.L
attribute [local irreducible] wpT
/-! Get of the program's memory; Load with another number of spans; bytes as a string -/
def gtL (f : Nat → Nat) (o k : Nat) : List Nat := (List.range k).map fun j => f (o + j)
theorem gtL_succ (f : Nat → Nat) (o k : Nat) : gtL f o (k + 1) = gtL f o k ++ [f (o + k)] := by unfold gtL; rw [List.range_succ, List.map_append]; rfl
theorem gtL_get (f : Nat → Nat) (o k j : Nat) (h : j < k) : (gtL f o k)[j]? = some (f (o + j)) := by unfold gtL; simp [h]
def u8L (L : List Nat) : List Value := L.map fun x : Nat => Value.int .u8 (x : Int)
theorem app_src {P : Program} {w : World} {ops : Array Oper} {rest : List Oper} {o : Oper} {a : Act} {Q : Exit → Act → World → Prop} (hgd : o.guard = none) (s x : Operand) (t e : TypeId) (k : IntKind) (bytes : Nat)
    (ho : o.op = .call { callee := .builtin .append, args := #[s, x], argTypes := #[t, t] }) (ht : P.underlying t = some (.slice e)) (hI : (P.info? e).map (fun i => (i.zero, i.size, i.bytes)) = some (some (.int k 0), 1, bytes)) (hb8 : bytes ≤ 8)
    (base : Nat) (v : Value) (n : Nat) (L : List Nat) (hs : a.eval s = v) (hown : w.ownsRow base e 1 v n (L.map fun x : Nat => Value.int k (x : Int)))
    (pp : Option Addr) (m c : Nat) (M : List Nat) (hx : a.eval x = .slice pp m c) (hl : M.length = m) (hnone : pp = none → m = 0 ∧ c = 0) (hsome : ∀ ad, pp = some ad → ∀ (j y : Nat), M[j]? = some y → w.cell? (ad.add j) = some (.int k (y : Int))) (hn : n + m < 100000000) (hbase : base ≤ w.heap.size)
    (h : ∀ v' w', w'.ownsRow base e 1 v' (n + m) ((L ++ M).map fun x : Nat => Value.int k (x : Int)) → w.grownBy w' v.ownBlock → wpList P ops Q rest (a.put o.dst v') w') : wpList P ops Q (o :: rest) a w := by
  obtain ⟨i, hi, hz, h1, h2⟩ := info_parts hI
  cases pp with
  | none =>
    obtain ⟨rfl, rfl⟩ := hnone rfl
    obtain rfl := List.eq_nil_of_length_eq_zero hl
    exact wpList_append_own_none hgd s x t ho base e i 1 ht hi v n _ hs hown hx (h v w (by simpa using hown) (World.grownBy.refl _ _))
  | some ad =>
    refine wpList_append_own w hgd s x t ho base e i (.int k 0) 1 bytes ht hi hz h1 h2 rfl (by decide) v n _ hs hown ad m c (M.map fun x : Nat => Value.int k (x : Int)) hx (by simp [hl]) (fun j u hu => ?_) (natU_one k M) (by unfold maxLen; omega) (by
      have : (n + m) * bytes ≤ 100000000 * 8 := Nat.mul_le_mul (by omega) hb8
      omega) hbase (fun v' w' q1 q2 _ => h v' w' (by rw [List.map_append]; exact q1) q2)
    rw [List.getElem?_map] at hu
    cases hq : M[j]? with
    | none => rw [hq] at hu; cases hu
    | some y =>
      rw [hq] at hu
      obtain rfl := Option.some.inj hu
      exact hsome ad rfl j y hq
set_option maxRecDepth 100000 in
set_option maxHeartbeats 1600000 in
theorem get_ok (f : Nat → Nat) (a o n b : Nat) (ha : a = 2147483648 + o) (hr : o + n ≤ 65536) (w : World) (hw : w.row? b = some (mem f)) :
    Calls Try.prog 12 #[.pointer (some ⟨b, 0, none⟩), .int .u32 (a : Int), .int .u32 (n : Int)] w fun e w' => ∃ v, e = .returned (.tuple #[v, .int .i64 0]) ∧ w'.ownsRow w.heap.size 5 1 v n (u8L (gtL f o n)) ∧ Chg [] w w' := by
  have HHas := Lib.hid (has_any a n (by omega) (by omega) ⟨b, 0, none⟩ w)
  rw [show inRam a n = true from decide_eq_true (by omega)] at HHas
  obtain ⟨e, he⟩ : ∃ e, e = o + n := ⟨_, rfl⟩
  have w1 : IntKind.u32.wrap ((a : Int) - 2147483648) = (o : Int) := by rw [u32w]; omega
  have w2 : IntKind.u32.wrap ((o : Int) + (n : Int)) = (e : Int) := by rw [u32w]; omega
  have n1 : o ≤ e := by omega
  have n2 : e ≤ 65536 := by omega
  have i1 : (o : Int) ≤ (e : Int) := by omega
  have i2 : (e : Int) ≤ 65536 := by omega
  have en : e - o = n := by omega
  by_cases h65 : 65536 = o
  · obtain rfl : n = 0 := by omega
    obtain rfl := h65
    obtain rfl : e = 65536 := by omega
    have HW := Lib.hid hw
    clear he hw hr ha n1 n2 i1 i2 en
    go_enter Try.func12, Try.ntmps12
    go_wp2_with fail
    refine HHas.out.mono ?_
    rintro e' w' ⟨rfl, hw⟩
    obtain rfl := hw.symm
    clear hw
    go_wp2_with (at_builtin; refine app_src rfl _ _ 35 5 .u8 1 rfl Try.underlying35 info5 (by decide) w.heap.size (.slice none 0 0) 0 [] rfl (World.ownsRow_nil _ _ _ _) (some ⟨b, 0, none⟩) 0 0 (gtL f 65536 0) rfl (by simp [gtL]) (fun h => by cases h) (fun ad had j y hj => by simp [gtL] at hj) (by decide) (Nat.le_refl _) ?_)
    intro v1 w3 hx1 hx2
    try rw [List.nil_append, Nat.zero_add] at hx1
    have hc3 : Chg [] w w3 := chg_grown (Chg.refl _ _) hx2 (fun x hx => by cases hx)
    have HX := Lib.hid hx1
    have HC := Lib.hid hc3
    clear hx1 hx2 hc3
    go_wp2
    go_ret2
    exact ⟨_, rfl, HX.out, HC.out⟩
  · have HE := Lib.hid he
    have HW := Lib.hid hw
    have HR := Lib.hid hr
    clear he hw hr ha
    go_enter Try.func12, Try.ntmps12
    go_wp2_with fail
    refine HHas.out.mono ?_
    rintro e' w' ⟨rfl, hw⟩
    obtain rfl := hw.symm
    clear hw
    go_wp2_with (at_builtin; refine app_src rfl _ _ 35 5 .u8 1 rfl Try.underlying35 info5 (by decide) w.heap.size (.slice none 0 0) 0 [] rfl (World.ownsRow_nil _ _ _ _) (some ⟨b, o, none⟩) n (65536 - o) (gtL f o n) rfl (by simp [gtL]) (fun h => by cases h) (fun ad had j y hj => by
      have hjn : j < n := by have := (List.getElem?_eq_some_iff.1 hj).1; simpa [gtL] using this
      have hr := HR.out
      obtain rfl := Option.some.inj had
      rw [gtL_get f o n j hjn] at hj
      obtain rfl := Option.some.inj hj
      rw [addr_add]
      exact mem_row HW.out (o + j) (by omega)) (by have := HR.out; omega) (Nat.le_refl _) ?_)
    intro v1 w3 hx1 hx2
    try rw [List.nil_append, Nat.zero_add] at hx1
    have hc3 : Chg [] w w3 := chg_grown (Chg.refl _ _) hx2 (fun x hx => by cases hx)
    have HX := Lib.hid hx1
    have HC := Lib.hid hc3
    clear hx1 hx2 hc3
    go_wp2
    go_ret2
    exact ⟨_, rfl, HX.out, HC.out⟩
set_option maxRecDepth 100000 in
theorem pload_ne {w : World} {p q : Option Addr} {n c m pc : Nat} {v : Value} (h : n ≠ m) : Calls Try.prog 22 #[v, .agg (fileA p n c), .slice q m pc] w fun e w' => e = .returned (.int .i64 1) ∧ Chg [] w w' := by
  have b1 : ((n : Int) == (m : Int)) = false := by rw [beq_eq_false_iff_ne]; omega
  clear h
  unfold fileA
  go_enter Try.func22, Try.ntmps22
  go_wp2
  go_ret
  exact ⟨rfl, (Chg.refl _ _).alloc _⟩
theorem putN_succ (f : Nat → Nat) (o : Nat) (g : Nat → Nat) (k : Nat) : up (putN f o g k) (o + k) (g k) = putN f o g (k + 1) := by
  funext i
  unfold up putN
  by_cases e : i = o + k
  · subst e
    rw [if_pos rfl, if_pos (by omega), show o + k - o = k from by omega]
  · rw [if_neg e]
    by_cases h : o ≤ i ∧ i < o + k
    · rw [if_pos h, if_pos (by omega)]
    · rw [if_neg h, if_neg (by omega)]
theorem flat_get {α : Type} (c : Nat) (F : α → List Value) (hF : ∀ x, (F x).length = c) : ∀ (L : List α) (j : Nat) (x : α) (i : Nat) (u : Value), L[j]? = some x → (F x)[i]? = some u → (L.flatMap F)[j * c + i]? = some u
  | [], j, x, i, u, h, _ => by simp at h
  | a :: L, 0, x, i, u, h, hu => by
    obtain rfl := Option.some.inj h
    have hi : i < (F a).length := (List.getElem?_eq_some_iff.1 hu).1
    rw [List.flatMap_cons, Nat.zero_mul, Nat.zero_add, List.getElem?_append_left hi]
    exact hu
  | a :: L, j + 1, x, i, u, h, hu => by
    have h' : L[j]? = some x := h
    rw [List.flatMap_cons, List.getElem?_append_right (by rw [hF, Nat.add_mul]; omega), hF, show (j + 1) * c + i - c = j * c + i by rw [Nat.add_mul]; omega]
    exact flat_get c F hF L j x i u h' hu
/-- the bytes as a string -/
def strF (F : Nat → Nat) : Value := .string (strOfNums ((List.range 65536).map fun i => (F i : Int)))
theorem conv_all {w : World} {b cap : Nat} {F : Nat → Nat} (h : ∀ i, i < 65536 → w.cell? ⟨b, i, none⟩ = some (.int .u8 (F i : Int))) : (convert 35 9 (.slice (some ⟨b, 0, none⟩) 65536 cap)).run Try.prog w = .ok (strF F) w :=
  run_convert_bytes_arg (P := Try.prog) w 35 5 Try.underlying35 Try.underlying5 b 0 65536 cap _ (by simp) (fun i hi => by rw [Nat.zero_add, h i hi]; simp [List.getD_eq_getElem?_getD, hi]) 9 Try.underlying9
end Go.Proofs.L
