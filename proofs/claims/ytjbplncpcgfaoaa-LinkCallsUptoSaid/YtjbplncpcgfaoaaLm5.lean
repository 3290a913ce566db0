/- Proved here: lemmas and contracts (Lm5) for the laws of this seat, for all values of the stated types; no further condition. -/
import Derived.Test.YtjbplncpcgfaoaaLm4
import Derived.Laws.IdiomCopy
import Derived.Deep.OwnRows
open Go Go.RowKit Go.Lib
namespace Go.Proofs.L.M
attribute [local irreducible] wpT
/-! Put of the program's memory -/
def putN (f : Nat → Nat) (o : Nat) (g : Nat → Nat) (k : Nat) : Nat → Nat := fun i => if o ≤ i ∧ i < o + k then g (i - o) else f i
theorem memA_get (f : Nat → Nat) (i : Nat) : (mem f).toList[i]? = if i < 65536 then some (.int .u8 (f i : Int)) else none := by
  unfold mem cellsK memL
  rw [RS_eq]
  by_cases hi : i < 65536
  · simp [hi]
  · simp [hi]
theorem mem_put (f g : Nat → Nat) (o n : Nat) (h : o + n ≤ 65536) (cs : List Value) (hcs : cs = (List.range n).map fun j => Value.int .u8 (g j : Int)) : ((mem f).toList.take o ++ cs ++ (mem f).toList.drop (o + cs.length)).toArray = mem (putN f o g n) := by
  have hl : cs.length = n := by rw [hcs]; simp
  have hm : (mem f).toList.length = 65536 := by simpa using mem_size f
  have ht : ((mem f).toList.take o).length = o := by rw [List.length_take, hm]; exact Nat.min_eq_left (by omega)
  have hta : ((mem f).toList.take o ++ cs).length = o + n := by rw [List.length_append, ht, hl]
  have e : (mem f).toList.take o ++ cs ++ (mem f).toList.drop (o + cs.length) = (mem (putN f o g n)).toList := by
    apply List.ext_getElem?
    intro i
    rw [memA_get]
    rw [hl]
    by_cases h1 : i < o
    · rw [List.append_assoc, List.getElem?_append_left (by rw [ht]; omega), List.getElem?_take, if_pos h1, memA_get, if_pos (by omega), if_pos (by omega)]
      unfold putN; rw [if_neg (by omega)]
    · by_cases h2 : i < o + n
      · rw [List.append_assoc, List.getElem?_append_right (by rw [ht]; omega), List.getElem?_append_left (by rw [ht, hl]; omega), if_pos (by omega)]
        have e1 : i - ((mem f).toList.take o).length = i - o := by rw [ht]
        rw [e1, hcs, List.getElem?_map, List.getElem?_range (by omega)]
        unfold putN; rw [if_pos (by omega)]
        rfl
      · rw [List.getElem?_append_right (by rw [hta]; omega)]
        have e1 : i - ((mem f).toList.take o ++ cs).length = i - (o + n) := by rw [hta]
        rw [e1, List.getElem?_drop, show o + n + (i - (o + n)) = i by omega, memA_get]
        unfold putN
        by_cases h3 : i < 65536
        · rw [if_pos h3, if_pos h3, if_neg (by omega)]
        · rw [if_neg h3, if_neg h3]
  rw [e]
theorem fill_cells (n : Nat) (g : Nat → Nat) : ∀ v ∈ (List.range n).map (fun j => Value.int .u8 (g j : Int)), v.oneCell' = true := by
  intro u hu
  rw [List.mem_map] at hu
  obtain ⟨x, _, rfl⟩ := hu
  rfl
theorem info5 : (Try.prog.info? 5).map (fun i => (i.zero, i.size, i.bytes)) = some (some (.int .u8 0), 1, 1) := by kernel_rfl
theorem size5 : (Try.prog.info? 5).map (·.size) = some 1 := by kernel_rfl
set_option maxRecDepth 100000 in
set_option maxHeartbeats 1600000 in
theorem put_ok (f g : Nat → Nat) (a o n b bb bo cap : Nat) (ha : a = 2147483648 + o) (hr : o + n ≤ 65536) (h0 : 0 < n) (w : World) (hw : w.row? b = some (mem f)) (hc : ∀ j, j < n → w.cell? ⟨bb, bo + j, none⟩ = some (.int .u8 (g j : Int))) :
    Calls Try.prog 26 #[.pointer (some ⟨b, 0, none⟩), .int .u32 (a : Int), .slice (some ⟨bb, bo, none⟩) n cap] w fun e w' => e = .returned (.int .i64 0) ∧ w'.row? b = some (mem (putN f o g n)) ∧ Chg [b] w w' := by
  have HHas := Lib.hid (has_any a n (by omega) (by omega) ⟨b, 0, none⟩ w)
  rw [show inRam a n = true from decide_eq_true (by omega)] at HHas
  have w1 : IntKind.u32.wrap ((a : Int) - 2147483648) = (o : Int) := by rw [u32w]; omega
  have w2 : IntKind.u64.wrap (n : Int) = (n : Int) := u64_id (by omega) (by omega)
  have w3 : IntKind.u32.wrap (n : Int) = (n : Int) := u32_id (by omega)
  have w4 : (n : Int) % 4294967296 = (n : Int) := by omega
  have w5 : (n : Int) % 18446744073709551616 = (n : Int) := by omega
  have d1 : decide (65536 < (n : Int)) = false := by rw [decide_eq_false_iff_not]; omega
  have n1 : ¬ 65536 = o := by omega
  have n2 : o ≤ 65536 := by omega
  have n3 : ¬ 65536 < n := by omega
  have n4 : (o : Int) ≤ 65536 := by omega
  obtain ⟨t, hwt⟩ := row_iff.1 hw
  obtain ⟨cs, hcs⟩ : ∃ cs, cs = (List.range n).map fun j => Value.int .u8 (g j : Int) := ⟨_, rfl⟩
  have hl : cs.length = n := by rw [hcs]; simp
  have HCP := Lib.hid (run_copy_row (P := Try.prog) w 36 36 3 5 b o (65536 - o) (65536 - o) ⟨bb, bo, none⟩ n cap (mem f) t cs Try.underlying36 size5 hwt (by rw [hl]; show n = Nat.min n (65536 - o); exact (Nat.min_eq_left (by omega)).symm) (by
    intro j v hj
    rw [hcs, List.getElem?_map] at hj
    have hjn : j < n := by
      rcases Nat.lt_or_ge j n with h | h
      · exact h
      · rw [List.getElem?_eq_none (by simp; omega)] at hj; cases hj
    rw [List.getElem?_range hjn] at hj
    obtain rfl := Option.some.inj hj
    rw [addr_add]
    exact hc j hjn) (by rw [hl, mem_size]; exact hr) (by rw [hcs]; exact fill_cells n g))
  rw [mem_put f g o n hr cs hcs] at HCP
  have HW := Lib.hid hw
  clear hcs hl hwt hc hr ha h0 hw
  go_enter Try.func26, Try.ntmps26
  go_wp2_with fail
  refine HHas.out.mono ?_
  rintro e w' ⟨rfl, hw⟩
  obtain rfl := hw.symm
  clear hw
  have hcp := HCP.out
  go_wp2
  go_ret
  exact ⟨rfl, by rw [row_setRow, if_pos rfl, HW.out]; rfl, (Chg.refl _ _).setRow (.inl (by simp)) _⟩
set_option maxRecDepth 100000 in
set_option maxHeartbeats 1600000 in
theorem put_zero_lt (f : Nat → Nat) (a o b cap : Nat) (ptr : Option Addr) (ha : a = 2147483648 + o) (hr : o ≤ 65536) (h65 : ¬ 65536 = o) (w : World) :
    Calls Try.prog 26 #[.pointer (some ⟨b, 0, none⟩), .int .u32 (a : Int), .slice ptr 0 cap] w fun e w' => e = .returned (.int .i64 0) ∧ w' = w := by
  have HHas := Lib.hid (has_any a 0 (by omega) (by omega) ⟨b, 0, none⟩ w)
  rw [show inRam a 0 = true from decide_eq_true (by omega)] at HHas
  have w1 : IntKind.u32.wrap ((a : Int) - 2147483648) = (o : Int) := by rw [u32w]; omega
  have n2 : o ≤ 65536 := by omega
  have n4 : (o : Int) ≤ 65536 := by omega
  have n1 : ¬ 65536 = o := h65
  have HCP := Lib.hid (fun d dl dc => run_copy_none (P := Try.prog) w 36 36 3 5 d ptr dl dc 0 cap Try.underlying36 size5 (Nat.zero_min _))
  clear ha hr h65
  go_enter Try.func26, Try.ntmps26
  go_wp2_with fail
  refine HHas.out.mono ?_
  rintro e w' ⟨rfl, hw⟩
  obtain rfl := hw.symm
  clear hw
  have hcp := HCP.out
  go_wp2
  go_ret
  exact ⟨rfl, rfl⟩
set_option maxRecDepth 100000 in
set_option maxHeartbeats 1600000 in
theorem put_zero_eq (f : Nat → Nat) (a b cap : Nat) (ptr : Option Addr) (ha : a = 2147549184) (w : World) :
    Calls Try.prog 26 #[.pointer (some ⟨b, 0, none⟩), .int .u32 (a : Int), .slice ptr 0 cap] w fun e w' => e = .returned (.int .i64 0) ∧ w' = w := by
  have HHas := Lib.hid (has_any a 0 (by omega) (by omega) ⟨b, 0, none⟩ w)
  rw [show inRam a 0 = true from decide_eq_true (by omega)] at HHas
  have w1 : IntKind.u32.wrap ((a : Int) - 2147483648) = (65536 : Int) := by rw [u32w]; omega
  have HCP := Lib.hid (fun d dl dc => run_copy_none (P := Try.prog) w 36 36 3 5 d ptr dl dc 0 cap Try.underlying36 size5 (Nat.zero_min _))
  clear ha 
  go_enter Try.func26, Try.ntmps26
  go_wp2_with fail
  refine HHas.out.mono ?_
  rintro e w' ⟨rfl, hw⟩
  obtain rfl := hw.symm
  clear hw
  have hcp := HCP.out
  go_wp2
  go_ret
  exact ⟨rfl, rfl⟩
set_option maxRecDepth 100000 in
set_option maxHeartbeats 1600000 in
theorem put_bad (a n : Nat) (p : Addr) (ptr : Option Addr) (cap : Nat) (ha : a < 4294967296) (hn : n ≤ 100000) (h : n ≤ 65536 → inRam a n = false) (w : World) :
    Calls Try.prog 26 #[.pointer (some p), .int .u32 (a : Int), .slice ptr n cap] w fun e w' => e = .returned (.int .i64 18) ∧ w' = w := by
  have h1 : IntKind.u64.wrap (n : Int) = n := u64_id (by omega) (by omega)
  have h2 : IntKind.u32.wrap (n : Int) = n := u32_id (by omega)
  have hh := has_any a n ha (by omega) p w
  by_cases hg : 65536 < n
  · have hd : decide ((n : Int) > 65536) = true := by rw [decide_eq_true_eq]; omega
    have hd2 : decide (65536 < (n : Int)) = true := by rw [decide_eq_true_eq]; omega
    clear hh
    go_enter Try.func26, Try.ntmps26
    go_wp2
    go_ret
    exact ⟨rfl, rfl⟩
  · have hd : decide ((n : Int) > 65536) = false := by rw [decide_eq_false_iff_not]; omega
    have hd2 : decide (65536 < (n : Int)) = false := by rw [decide_eq_false_iff_not]; omega
    rw [h (by omega)] at hh
    have HH := Lib.hid hh
    clear hh h
    go_enter Try.func26, Try.ntmps26
    go_wp2_with fail
    refine HH.out.mono ?_
    rintro e w1 ⟨rfl, rfl⟩
    go_wp2
    go_ret
    exact ⟨rfl, rfl⟩
end Go.Proofs.L.M
