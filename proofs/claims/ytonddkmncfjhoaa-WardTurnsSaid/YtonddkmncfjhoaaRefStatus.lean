/- Proved here: lemmas and contracts (RefStatus) for the laws of this seat, for all values of the stated types; no further condition. -/
import Derived.Test.YtonddkmncfjhoaaRefTurn
open Go Go.RowKit Go.Lib
namespace Go.Proofs.L
/-- whose status is asked for -/
def Stat (f : Nat → Sta) (rl gl : List Nat) (n : Int) (S : Sta) : Prop := (∃ m : Nat, n = m ∧ (m ∈ rl ∨ m ∈ gl) ∧ S = f m) ∨ ((∀ m : Nat, m ∈ rl ∨ m ∈ gl → n ≠ m) ∧ S = noSta)
theorem Stat.hit {f rl gl n S} (h : Stat f rl gl n S) (m : Nat) (hm : m ∈ rl ∨ m ∈ gl) (hn : n = m) : S = f m := by
  rcases h with ⟨m', h1, -, h3⟩ | ⟨h1, -⟩
  · have : m' = m := by omega
    rw [h3, this]
  · exact absurd hn (h1 m hm)
theorem Stat.miss {f rl gl n S} (h : Stat f rl gl n S) (hn : ∀ m : Nat, m ∈ rl ∨ m ∈ gl → n ≠ m) : S = noSta := by
  rcases h with ⟨m', h1, h2, -⟩ | ⟨-, h2⟩
  · exact absurd h1 (hn m' h2)
  · exact h2
set_option maxHeartbeats 1600000 in
theorem rstatus_any {w b rl gl f vr vg} (h : Rw w b rl gl f vr vg) (hbr : rl.length ≤ 100) (hbg : gl.length ≤ 100) (n : Int) (S : Sta) (hS : Stat f rl gl n S) : Calls Try.prog 14 #[.pointer (some ⟨b, 0, none⟩), .int .i64 n] w fun e w' => e = .returned (.agg (stL S).toArray) ∧ Chg [] w w' := by
  have HST := Lib.hid hS
  clear hS
  obtain ⟨V, hV⟩ : ∃ V, V = w.alloc (.cells (stL noSta).toArray 40) := ⟨_, rfl⟩
  obtain ⟨B, hB⟩ : ∃ B, B = w.heap.size := ⟨_, rfl⟩
  have rb : V.row? B = some (stL noSta).toArray := by rw [hV]; exact row_alloc_at _ _ _ _ hB
  have hCV : Chg [] w V := by rw [hV]; exact (Chg.refl _ _).alloc _
  have HV := h.keep0 hCV
  obtain ⟨pr, cr, hvr⟩ := win_sl h.r
  obtain ⟨pg, cg, hvg⟩ := win_sl h.g
  have c0 := HV.c0
  have c1 := HV.c1
  rw [hvr] at c0
  rw [hvg] at c1
  obtain ⟨lr, hlr⟩ : ∃ x, x = rl.length := ⟨_, rfl⟩
  obtain ⟨lg, hlg⟩ : ∃ x, x = gl.length := ⟨_, rfl⟩
  rw [← hlr] at c0 hbr
  rw [← hlg] at c1 hbg
  have HLR := Lib.hid hlr
  have HLG := Lib.hid hlg
  clear hlr hlg
  have HRB := Lib.hid rb
  have HHV := Lib.hid HV
  have HCV := Lib.hid hCV
  have HBE := Lib.hid hB
  have HVR := Lib.hid hvr
  have HVG := Lib.hid hvg
  -- the answer is stored and given back
  rw [noSta_eq] at hV
  clear h rb HV hCV hvr hvg
  go_enter Try.func14, Try.ntmps14
  go_wp2_with fail
  rw [← hB, ← hV]
  clear hB hV
  go_loopw [5] (fun i wr => ∃ k : Nat, k ≤ lr ∧ i = .int .i64 k ∧ wr = V ∧ ∀ m, m ∈ rl.take k → n ≠ (m : Int)) (fun i _ => lr - (intOf i).toNat)
  case atStart => exact ⟨0, by omega, rfl, rfl, by simp⟩
  case round =>
    obtain ⟨k, hk, rfl, rfl, hno⟩ := hrel
    have HNO := Lib.hid hno
    clear hno
    by_cases hk2 : k < lr
    · have dk : decide ((k : Int) < (lr : Int)) = true := by simp; omega
      have hkI : (k : Int) < (lr : Int) := by omega
      obtain ⟨m, hm⟩ : ∃ m, rl[k]? = some m := ⟨_, List.getElem?_eq_getElem (by rw [← HLR.out]; exact hk2)⟩
      obtain ⟨g, o, cc, hv, hc, -⟩ := win_el HHV.out.r k m hm
      have hc0 := HHV.out.c0
      rw [hv, ← HLR.out] at hc0
      have cm := hc 0 _ (oneL_0 f m)
      rw [Nat.add_zero] at cm
      have hmem : m ∈ rl := List.mem_of_getElem? hm
      have htk : rl.take (k + 1) = rl.take k ++ [m] := by rw [List.take_add_one, hm]; rfl
      have HC := Lib.hid hc
      have HMEM := Lib.hid hmem
      have HTK := Lib.hid htk
      clear hc hmem htk hm hv c0
      by_cases hn : n = (m : Int)
      · have hS : S = f m := HST.out.hit m (.inl HMEM.out) hn
        have HSf := Lib.hid hS
        have hln := stL_len (f m)
        have hsz : (stL (f m)).toArray.size = 35 := by simp [stL_len]
        have hall := stL_allOne (f m)
        obtain ⟨L, hL⟩ : ∃ L, L = stL (f m) := ⟨_, rfl⟩
        rw [← hL] at hln hsz hall
        have HL := Lib.hid hL
        have hcl : ∀ (j : Nat) (u : Value), L[j]? = some u → wr.cell? ⟨g, o + k * 36 + 1 + j, none⟩ = some u := fun j u hu => by
          have := HC.out (j + 1) u (by rw [oneL_s, ← HL.out]; exact hu)
          rwa [show o + k * 36 + (j + 1) = o + k * 36 + 1 + j by omega] at this
        have HCL := Lib.hid hcl
        subst hn
        clear hS hL hcl
        go_wp2_with (first | refine wpList_load_part a40 L rfl _ rfl rfl hln HCL.out ?_ | refine wpList_store_row a40 _ _ rfl rfl rfl rfl rfl HRB.out (by simp [stL_len]) hsz hall ?_)
        refine bodyPost_ret (ret_cell1 rfl a40 rfl (by rw [row_setRow, if_pos rfl, HRB.out]; rfl) hsz) rfl ?_
        exact ⟨by rw [HSf.out, ← HL.out], HCV.out.setRow (Or.inr (by have := HBE.out; omega)) _⟩
      · have n1 : ((m : Int) == n) = false := by rw [beq_eq_false_iff_ne]; exact fun e => hn e.symm
        have n2 : ((m : Int) = n) = False := by simp; exact fun e => hn e.symm
        have HNN := Lib.hid hn
        clear hn
        have nx : ∀ m' : Nat, m' ∈ rl.take (k + 1) → n ≠ (m' : Int) := fun m' hm' => by
          rw [HTK.out] at hm'
          rcases List.mem_append.1 hm' with h | h
          · exact HNO.out m' h
          · simp at h; rw [h]; exact HNN.out
        have k1 : k + 1 ≤ lr := hk2
        have HNX := Lib.hid nx
        clear nx
        go_wp2
        clear n1 n2 dk hkI
        refine ⟨⟨k + 1, k1, by go_num, ?_, HNX.out⟩, ?_⟩
        · first | rfl | trivial
        · simp only [intOf]; omega
    · obtain rfl : k = lr := by omega
      have dk : decide ((k : Int) < (k : Int)) = false := by simp
      have hnr : ∀ m : Nat, m ∈ rl → n ≠ m := fun m hm => HNO.out m (by rw [List.take_of_length_le (by have := HLR.out; omega)]; exact hm)
      have HNR := Lib.hid hnr
      clear hnr HNO
      go_wp2_with fail
      go_loopw [6] (fun i wr2 => ∃ k : Nat, k ≤ lg ∧ i = .int .i64 k ∧ wr2 = wr ∧ ∀ m, m ∈ gl.take k → n ≠ (m : Int)) (fun i _ => lg - (intOf i).toNat)
      case atStart => exact ⟨0, by omega, rfl, rfl, by simp⟩
      case round =>
        obtain ⟨k, hk, rfl, rfl, hno⟩ := hrel
        have HNG := Lib.hid hno
        clear hno dk
        by_cases hk2 : k < lg
        · have dk : decide ((k : Int) < (lg : Int)) = true := by simp; omega
          have hkI : (k : Int) < (lg : Int) := by omega
          obtain ⟨m, hm⟩ : ∃ m, gl[k]? = some m := ⟨_, List.getElem?_eq_getElem (by rw [← HLG.out]; exact hk2)⟩
          obtain ⟨g, o, cc, hv, hc, -⟩ := win_el HHV.out.g k m hm
          have hc0 := HHV.out.c1
          rw [hv, ← HLG.out] at hc0
          have cm := hc 0 _ (oneL_0 f m)
          rw [Nat.add_zero] at cm
          have hmem : m ∈ gl := List.mem_of_getElem? hm
          have htk : gl.take (k + 1) = gl.take k ++ [m] := by rw [List.take_add_one, hm]; rfl
          have HC := Lib.hid hc
          have HMEM := Lib.hid hmem
          have HTK := Lib.hid htk
          clear hc hmem htk hm hv c1
          by_cases hn : n = (m : Int)
          · have hS : S = f m := HST.out.hit m (.inr HMEM.out) hn
            have HSf := Lib.hid hS
            have hln := stL_len (f m)
            have hsz : (stL (f m)).toArray.size = 35 := by simp [stL_len]
            have hall := stL_allOne (f m)
            obtain ⟨L, hL⟩ : ∃ L, L = stL (f m) := ⟨_, rfl⟩
            rw [← hL] at hln hsz hall
            have HL := Lib.hid hL
            have hcl : ∀ (j : Nat) (u : Value), L[j]? = some u → wr.cell? ⟨g, o + k * 36 + 1 + j, none⟩ = some u := fun j u hu => by
              have := HC.out (j + 1) u (by rw [oneL_s, ← HL.out]; exact hu)
              rwa [show o + k * 36 + (j + 1) = o + k * 36 + 1 + j by omega] at this
            have HCL := Lib.hid hcl
            subst hn
            clear hS hL hcl
            go_wp2_with (first | refine wpList_load_part a40 L rfl _ rfl rfl hln HCL.out ?_ | refine wpList_store_row a40 _ _ rfl rfl rfl rfl rfl HRB.out (by simp [stL_len]) hsz hall ?_)
            refine bodyPost_ret (ret_cell1 rfl a40 rfl (by rw [row_setRow, if_pos rfl, HRB.out]; rfl) hsz) rfl ?_
            exact ⟨by rw [HSf.out, ← HL.out], HCV.out.setRow (Or.inr (by have := HBE.out; omega)) _⟩
          · have n1 : ((m : Int) == n) = false := by rw [beq_eq_false_iff_ne]; exact fun e => hn e.symm
            have n2 : ((m : Int) = n) = False := by simp; exact fun e => hn e.symm
            have HNN := Lib.hid hn
            clear hn
            have nx : ∀ m' : Nat, m' ∈ gl.take (k + 1) → n ≠ (m' : Int) := fun m' hm' => by
              rw [HTK.out] at hm'
              rcases List.mem_append.1 hm' with h | h
              · exact HNG.out m' h
              · simp at h; rw [h]; exact HNN.out
            have k1 : k + 1 ≤ lg := hk2
            have HNX := Lib.hid nx
            clear nx
            go_wp2
            clear n1 n2 dk hkI
            refine ⟨⟨k + 1, k1, by go_num, ?_, HNX.out⟩, ?_⟩
            · first | rfl | trivial
            · simp only [intOf]; omega
        · obtain rfl : k = lg := by omega
          have dk : decide ((k : Int) < (k : Int)) = false := by simp
          have hS : S = noSta := HST.out.miss fun m hm => by
            rcases hm with hm | hm
            · exact HNR.out m hm
            · exact HNG.out m (by rw [List.take_of_length_le (by have := HLG.out; omega)]; exact hm)
          have HSf := Lib.hid hS
          clear hS
          go_wp2_with (refine wpList_store_row a40 _ _ rfl rfl rfl rfl rfl HRB.out rfl rfl rfl ?_)
          refine bodyPost_ret (ret_cell1 rfl a40 rfl (by rw [row_setRow, if_pos rfl, HRB.out]; rfl) rfl) rfl ?_
          exact ⟨by rw [HSf.out]; rfl, HCV.out.setRow (Or.inr (by have := HBE.out; omega)) _⟩
end Go.Proofs.L
