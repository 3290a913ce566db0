/- Proved here: lemmas and contracts (New) for the laws of this seat, for all values of the stated types; no further condition. -/
import Derived.Test.YtonddkmncfjhoaaKeep
open Go Go.RowKit Go.Lib
namespace Go.Proofs.L
theorem info_parts {P : Program} {t : TypeId} {z : Value} {s b : Nat} (h : (P.info? t).map (fun i => (i.zero, i.size, i.bytes)) = some (some z, s, b)) : ∃ i, P.info? t = some i ∧ i.zero = some z ∧ i.size = s ∧ i.bytes = b := by
  cases hi : P.info? t with
  | none => rw [hi] at h; cases h
  | some i => rw [hi] at h; simp at h; exact ⟨i, rfl, h.1, h.2.1, h.2.2⟩
theorem info40 : (Try.prog.info? 40).map (fun i => (i.zero, i.size, i.bytes)) = some (some (.agg (stL noSta).toArray), 35, 144) := by kernel_rfl
def entSta (E : Nat → Nat) : Nat → Sta := fun k => ⟨0, 0, E k, fun _ => 0⟩
theorem new_bad (p : Option Addr) (len cap : Nat) (h : len < 1 ∨ 4 < len) (w : World) : Calls Try.prog 7 #[.slice p len cap] w fun e w' => e = .returned (.tuple #[.pointer none, .int .i64 1]) ∧ w' = w := by
  by_cases h1 : len < 1
  · have d1 : decide ((len : Int) < 1) = true := by simp; omega
    go_enter Try.func7, Try.ntmps7
    go_wp2
    go_ret2
    exact ⟨rfl, rfl⟩
  · have d1 : decide ((len : Int) < 1) = false := by simp; omega
    have d2 : decide ((len : Int) > 4) = true := by simp; omega
    have d3 : decide (4 < (len : Int)) = true := by simp; omega
    go_enter Try.func7, Try.ntmps7
    go_wp2
    go_ret2
    exact ⟨rfl, rfl⟩
structure NewI (w wr : World) (b k : Nat) (v : Value) (E : Nat → Nat) : Prop where
  row : wr.row? b = some #[v, .int .i64 0]
  win : Win wr 35 v k (fl (entSta E) k)
  own : ∀ x, v.ownBlock = some x → b < x
  chg : Chg [] w wr
theorem NewI.step {w wr V W3 : World} {k b : Nat} {v v' : Value} {E : Nat → Nat} (h : NewI w wr b k v E) (hb : w.heap.size ≤ b) (hV : Chg [] wr V) (h1 : Win W3 35 v' (k + 1) (fl (entSta E) k ++ stL (entSta E k))) (h2 : Chg v.ownBlock.toList V W3) (h3 : v'.ownBlock = v.ownBlock ∨ v'.ownBlock = some V.heap.size) :
    W3.row? b = some #[v, .int .i64 0] ∧ NewI w (W3.setCell ⟨b, 0, none⟩ v') b (k + 1) v' E := by
  have hlt := row_lt h.row
  have hbv : b ∉ v.ownBlock.toList := by intro hm; have := h.own b (by simpa using hm); omega
  have hr : W3.row? b = some #[v, .int .i64 0] := by
    rw [h2.row (by have := hV.size; omega) hbv, hV.row hlt (by simp)]; exact h.row
  have hc : Chg [b] W3 (W3.setCell ⟨b, 0, none⟩ v') := (Chg.refl _ _).setCell (Or.inl (by simp)) _
  have ho : ∀ x, v'.ownBlock = some x → b < x := fun x hx => by
    rcases h3 with h3 | h3
    · exact h.own x (by rw [← h3]; exact hx)
    · rw [h3] at hx; have := hV.size; simp at hx; omega
  refine ⟨hr, ?_, h1.keep hc (fun x hx hm => by have := ho x hx; simp at hm; omega), ho, ?_⟩
  · rw [row_setCell_same, hr]; rfl
  · have hsz := hV.size
    refine ⟨hc.os.trans (h2.os.trans (hV.os.trans h.chg.os)), hc.tape.trans (h2.tape.trans (hV.tape.trans h.chg.tape)), hc.output.trans (h2.output.trans (hV.output.trans h.chg.output)), Nat.le_trans h.chg.size (Nat.le_trans hV.size (Nat.le_trans h2.size hc.size)), fun x hx _ => ?_⟩
    have hx2 : x < wr.heap.size := Nat.lt_of_lt_of_le hx h.chg.size
    rw [hc.block x (by have := h2.size; omega) (by simp; omega), h2.block x (by omega) (fun hm => by have := h.own x (by simpa using hm); omega), hV.block x hx2 (by simp), h.chg.block x hx (by simp)]
set_option maxHeartbeats 800000 in
theorem new_in (p : Option Addr) (sb so len cap : Nat) (E : Nat → Nat) (w : World) (h1 : 1 ≤ len) (h4 : len ≤ 4) (hp : p = some ⟨sb, so, none⟩) (hcell : ∀ k, k < len → w.cell? ⟨sb, so + k, none⟩ = some (.int .u32 (E k : Int))) :
    Calls Try.prog 7 #[.slice p len cap] w fun e w' => e = .returned (.tuple #[.pointer (some ⟨w.heap.size, 0, none⟩), .int .i64 0]) ∧ ∃ g o c, Wd w' w.heap.size len (entSta E) 0 g o c ∧ w.heap.size < g ∧ Chg [] w w' := by
  subst hp
  obtain ⟨i0, hi0, hz0, hz1, hz2⟩ := info_parts info40
  have d1 : decide ((len : Int) < 1) = false := by simp; omega
  have d2 : decide ((len : Int) > 4) = false := by simp; omega
  have d3 : decide (4 < (len : Int)) = false := by simp; omega
  have HCL := Lib.hid hcell
  obtain ⟨b, hb⟩ : ∃ b, b = w.heap.size := ⟨_, rfl⟩
  rw [← hb]
  have HI0 : Hid (NewI w (w.alloc (.cells #[.slice none 0 0, .int .i64 0] 49)) b 0 (.slice none 0 0) E) := Lib.hid ⟨row_alloc_at _ _ _ _ hb, win_nil _ _, fun x hx => by simp [Value.ownBlock] at hx, (Chg.refl _ _).alloc _⟩
  have HB := Lib.hid hb
  clear hcell
  go_enter Try.func7, Try.ntmps7
  go_wp2_with fail
  rw [← hb]
  clear hb
  go_loopw [19, 6] (fun i u wr => ∃ (k : Nat) (v : Value), k ≤ len ∧ i = .int .i64 k ∧ NewI w wr b k v E) (fun i _ _ => len - (intOf i).toNat)
  case atStart => exact ⟨0, _, by omega, rfl, HI0.out⟩
  case round =>
    obtain ⟨k, v, hk, rfl, hI⟩ := hrel
    have HI := Lib.hid hI
    by_cases hk2 : k < len
    · have dk : decide ((k : Int) < (len : Int)) = true := by simp; omega
      have hkI : (k : Int) < (len : Int) := by omega
      have ce : wr.cell? ⟨sb, so + k, none⟩ = some (.int .u32 (E k : Int)) := by
        rw [World.cell?_of_block (w := w) (hI.chg.block sb (World.block_lt_of_cell? w _ (HCL.out k hk2)) (by simp))]; exact HCL.out k hk2
      have c0 : wr.cell? ⟨b, 0, none⟩ = some v := by rw [row_cell hI.row]; rfl
      have f0 := row_free hI.row 0
      have hlt := row_lt hI.row
      have hne : b ≠ wr.heap.size := by omega
      have hne2 : wr.heap.size ≠ b := by omega
      have hVc : Chg [] wr (wr.alloc (.cells (stL (entSta E k)).toArray 40)) := (Chg.refl _ _).alloc _
      have HX : Hid (∀ j u, (stL (entSta E k))[j]? = some u → (wr.alloc (.cells (stL (entSta E k)).toArray 40)).cell? ((⟨wr.heap.size, 0, none⟩ : Addr).add j) = some u) := Lib.hid fun j u hu => by
        rw [addr_add, Nat.zero_add, row_cell (row_alloc_at _ _ _ _ rfl)]; simpa using hu
      have HWn : Hid (Win (wr.alloc (.cells (stL (entSta E k)).toArray 40)) 35 v k (fl (entSta E) k)) := Lib.hid (hI.win.keep hVc (by simp))
      have HOne := Lib.hid (stL_all (entSta E k))
      have HLn := Lib.hid (stL_len (entSta E k))
      have HVc := Lib.hid hVc
      clear hI hVc
      go_wp2_with (at_builtin; refine wpList_append_win rfl _ _ 33 rfl 40 i0 (.agg (stL noSta).toArray) 35 144 Try.underlying33 hi0 hz0 hz1 hz2 rfl v k (fl (entSta E) k) rfl HWn.out ⟨wr.heap.size, 0, none⟩ 1 1 (stL (entSta E k)) rfl HLn.out HX.out HOne.out (by omega) (by unfold maxLen; omega) (by omega) ?_)
      intro v' W3 h1 h2 h3
      obtain ⟨p', c', rfl, -⟩ := h1.form
      obtain ⟨hr3, hN⟩ := HI.out.step (by rw [HB.out]; exact Nat.le_refl _) HVc.out h1 h2 (by simpa using h3)
      have c3 : W3.cell? ⟨b, 0, none⟩ = some v := by rw [row_cell hr3]; rfl
      have f3 := row_free hr3 0
      have HNN := Lib.hid hN
      clear h1 h2 h3 hr3 hN
      go_wp2
      exact ⟨⟨k + 1, _, by omega, by go_num, HNN.out⟩, by simp only [intOf]; omega⟩
    · obtain rfl : k = len := by omega
      have dk : decide ((k : Int) < (k : Int)) = false := by simp
      go_wp2
      go_ret2
      rcases hI.win.2 with ⟨-, h0⟩ | ⟨g, o, c, rfl, -, -, -, -⟩
      · omega
      · refine ⟨rfl, g, o, c, ⟨hI.row, hI.win, ?_⟩, hI.own g rfl, hI.chg⟩
        have := hI.own g rfl
        omega
end Go.Proofs.L
