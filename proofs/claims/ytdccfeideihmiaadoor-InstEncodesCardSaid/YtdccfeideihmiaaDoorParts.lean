/- Proved here: lemmas and contracts (Parts) for the laws of this seat, for all values of the stated types; no further condition. -/
import Derived.Test.YtdccfeideihmiaaDoorImms
open Go Go.RowKit Go.Lib
namespace Go.Proofs.L
theorem a26 : aggT Tryd.prog 26 5 := aggT_of (by kernel_rfl)
/-- an instruction -/
def insA (op rd rs1 rs2 imm : Nat) : Array Value := #[.int .i64 (op : Int), .int .i64 (rd : Int), .int .i64 (rs1 : Int), .int .i64 (rs2 : Int), .int .u32 (imm : Int)]
theorem insA_size (a b c d e) : (insA a b c d e).size = 5 := rfl
theorem of_any (op rd rs1 rs2 imm o0 : Nat) (w : World) : Calls Tryd.prog 29 #[.int .i64 (op : Int), .agg (insA o0 rd rs1 rs2 imm)] w fun e w' => e = .returned (.agg (if op = 0 then insA 0 0 0 0 0 else insA op rd rs1 rs2 imm)) ∧ Chg [] w w' := by
  unfold insA
  by_cases h : op = 0
  · rw [if_pos h]
    subst h
    go_enter Tryd.func29, Tryd.ntmps29
    go_wp2
    refine bodyPost_ret (ret_cell1 rfl a26 rfl (row_alloc_at _ _ _ _ (by simp)) rfl) rfl ?_
    exact ⟨rfl, ((Chg.refl _ _).alloc _).alloc _⟩
  · rw [if_neg h]
    have h1 : ((op : Int) == 0) = false := by simpa using h
    have h2 : ((op : Int) = 0) = False := by simpa using h
    go_enter Tryd.func29, Tryd.ntmps29
    go_wp2
    refine bodyPost_ret (ret_cell1 rfl a26 rfl (row_alloc_at _ _ _ _ (by simp)) rfl) rfl ?_
    exact ⟨rfl, ((Chg.refl _ _).alloc _).alloc _⟩
theorem pick_any {w : World} {B n c : Nat} (l : List Nat) (hl : l.length = n) (hc : ∀ (j u : Nat), l[j]? = some u → w.cell? ⟨B, j, none⟩ = some (.int .i64 (u : Int))) (f : Nat) :
    Calls Tryd.prog 30 #[.int .i64 (f : Int), .slice (some ⟨B, 0, none⟩) n c] w fun e w' => e = .returned (.int .i64 (l.getD f 0 : Nat)) ∧ w' = w := by
  by_cases h : f < n
  · obtain ⟨u, hu⟩ : ∃ u, l[f]? = some u := ⟨_, List.getElem?_eq_getElem (by omega)⟩
    have hcf := hc f u hu
    have hg : l.getD f 0 = u := by simp [hu]
    have d1 : decide ((f : Int) < (n : Int)) = true := by simp; omega
    have hI : (f : Int) < (n : Int) := by omega
    rw [hg]
    clear hc hu hg
    go_enter Tryd.func30, Tryd.ntmps30
    go_wp2
    go_ret
    exact ⟨rfl, rfl⟩
  · have hg : l.getD f 0 = 0 := by simp [List.getElem?_eq_none (show l.length ≤ f by omega)]
    have d1 : decide ((f : Int) < (n : Int)) = false := by simp; omega
    rw [hg]
    clear hc hg
    go_enter Tryd.func30, Tryd.ntmps30
    go_wp2
    go_ret
    exact ⟨rfl, rfl⟩
theorem u_any (op x rd rs1 rs2 imm o0 : Nat) (hx : x < 4294967296) (w : World) : Calls Tryd.prog 28 #[.int .i64 (op : Int), .agg (insA o0 rd rs1 rs2 imm), .int .u32 (x : Int)] w fun e w' => e = .returned (.agg (insA op rd 0 0 (immU x))) ∧ Chg [] w w' := by
  have HU : Hid (∀ w : World, Calls Tryd.prog 19 #[.int .u32 (x : Int)] w fun e w' => e = .returned (.int .u32 (immU x : Nat)) ∧ w' = w) := Lib.hid (immU_any x hx)
  obtain ⟨y, hy⟩ : ∃ y, y = immU x := ⟨_, rfl⟩
  rw [← hy] at HU ⊢
  clear hy hx
  unfold insA
  go_enter Tryd.func28, Tryd.ntmps28
  go_wp2_with fail
  refine wp_region_C (fun w' => w'.cell? ⟨w.heap.size, 1, none⟩ = some (.int .i64 (rd : Int))) [(0, 0), (1, 0), (2, 1), (3, 0), (4, 2), (5, 0), (6, 3)] rfl (by kernel_rfl) ?hSA ?hTA
  case hSA => simp
  refine wpT_pureD (v := ?_) (some 7) rfl rfl (by rfl) (fun w' => ?_) ?_
  rotate_left
  · (go_simp; try with_reducible rfl)
  try simp only [Act.put, List.setIfInBounds_toArray, List.set_cons_zero, List.set_cons_succ]
  refine wpT_pureD (v := ?_) (some 8) rfl rfl (by rfl) (fun w' => ?_) ?_
  rotate_left
  · (go_simp; try with_reducible rfl)
  try simp only [Act.put, List.setIfInBounds_toArray, List.set_cons_zero, List.set_cons_succ]
  refine wpT_readD (v := ?_) (some 9) rfl rfl (by rfl) (fun w' hw => ?_) ?_
  rotate_left
  · (obtain q0 := hw; go_simp; try with_reducible rfl)
  try simp only [Act.put, List.setIfInBounds_toArray, List.set_cons_zero, List.set_cons_succ]
  refine wpT_pureD (v := ?_) (some 10) rfl rfl (by rfl) (fun w' => ?_) ?_
  rotate_left
  · (go_simp; try with_reducible rfl)
  try simp only [Act.put, List.setIfInBounds_toArray, List.set_cons_zero, List.set_cons_succ]
  refine wpT_eff rfl (by rfl) (fun K hK => ?_)
  go_wp2_with fail
  refine (HU.out _).mono ?_
  rintro e w' ⟨rfl, rfl⟩
  go_wp2_with fail
  refine hK _ _ (by simp) ?_
  clear hK K
  refine wpT_pureD (v := ?_) (some 12) rfl rfl (by rfl) (fun w' => ?_) ?_
  rotate_left
  · (go_simp; try with_reducible rfl)
  try simp only [Act.put, List.setIfInBounds_toArray, List.set_cons_zero, List.set_cons_succ]
  refine wpT_brk rfl (by rfl) (fun K hK => ?_)
  go_wp2_with fail
  refine wpT_end ?_
  go_wp2
  refine bodyPost_ret (ret_cell1 rfl a26 rfl (row_alloc_at _ _ _ _ (by simp)) rfl) rfl ?_
  exact ⟨rfl, ((((Chg.refl _ _).alloc _).drew).alloc _)⟩
end Go.Proofs.L
