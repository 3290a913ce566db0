/- Proved here: lemmas and contracts (RefSet) for the laws of this seat, for all values of the stated types; no further condition. -/
import Derived.Test.YtonddkmncfjhoaaRefEnd
import Derived.Test.YtonddkmncfjhoaaNextCyc
open Go Go.RowKit Go.Lib
namespace Go.Proofs.L
def headT : List Nat → Int
  | [] => -1
  | t :: _ => t
/-- the first k of an order that are ready; that are not -/
def rdy (L : Nat → Sta) (τ n k : Nat) : List Nat := ((cyc τ n).take k).filter (rB L)
def gon (L : Nat → Sta) (τ n k : Nat) : List Nat := ((cyc τ n).take k).filter (fun i => !rB L i)
theorem cyc_take {τ n k : Nat} (hk : k < n) : (cyc τ n).take (k + 1) = (cyc τ n).take k ++ [(τ + k) % n] := by
  rw [List.take_add_one]
  congr 1
  unfold cyc
  simp [hk]
theorem rdy_succ {L τ n k} (hk : k < n) : rdy L τ n (k + 1) = if (L ((τ + k) % n)).s = 0 then rdy L τ n k ++ [(τ + k) % n] else rdy L τ n k := by
  unfold rdy
  rw [cyc_take hk, List.filter_append]
  by_cases h : (L ((τ + k) % n)).s = 0 <;> simp [rB, h]
theorem gon_succ {L τ n k} (hk : k < n) : gon L τ n (k + 1) = if (L ((τ + k) % n)).s = 0 then gon L τ n k else gon L τ n k ++ [(τ + k) % n] := by
  unfold gon
  rw [cyc_take hk, List.filter_append]
  by_cases h : (L ((τ + k) % n)).s = 0 <;> simp [rB, h]
theorem rdy_len (L τ n k) : (rdy L τ n k).length ≤ k := Nat.le_trans (List.length_filter_le _ _) (by simp; omega)
theorem gon_len (L τ n k) : (gon L τ n k).length ≤ k := Nat.le_trans (List.length_filter_le _ _) (by simp; omega)
/-- where the order begins -/
def tau (T : Int) (n : Nat) : Nat := if 0 ≤ T then T.toNat % n else 0
/-- the new ward under way -/
structure SetI (w wr : World) (B : Nat) (rl gl : List Nat) (L : Nat → Sta) : Prop where
  ex : ∃ vr vg, Rw wr B rl gl L vr vg ∧ (∀ x, vr.ownBlock = some x → w.heap.size ≤ x) ∧ (∀ x, vg.ownBlock = some x → w.heap.size ≤ x)
  chg : Chg [] w wr
  new : w.heap.size ≤ B
theorem SetI.keep {w wr wr' B rl gl L} (h : SetI w wr B rl gl L) (hc : Chg [] wr wr') : SetI w wr' B rl gl L := by
  obtain ⟨vr, vg, hr, h1, h2⟩ := h.ex
  exact ⟨⟨vr, vg, hr.keep0 hc, h1, h2⟩, h.chg.trans hc, h.new⟩
def rsetQ (w : World) (b n : Nat) (L : Nat → Sta) (T : Int) (e : Ending) (w' : World) : Prop :=
  ((∀ i, i < n → okSta (L i)) ∧ headT (rdy L (tau T n) n n) = T ∧ e = .returned (.int .i64 0) ∧ ∃ vr vg, Rw w' b (rdy L (tau T n) n n) (gon L (tau T n) n n) L vr vg ∧ (∀ x, vr.ownBlock = some x → w.heap.size ≤ x) ∧ (∀ x, vg.ownBlock = some x → w.heap.size ≤ x) ∧ Chg [b] w w') ∨
  (¬ ((∀ i, i < n → okSta (L i)) ∧ headT (rdy L (tau T n) n n) = T) ∧ e = .returned (.int .i64 3) ∧ Chg [] w w')
theorem rset_len {w b rl gl f vr vg} (h : Rw w b rl gl f vr vg) (hr : rl.length ≤ 100) (hg : gl.length ≤ 100) (p : Option Addr) (len c : Nat) (T : Int) (hl : len ≠ rl.length + gl.length) : Calls Try.prog 22 #[.pointer (some ⟨b, 0, none⟩), .slice p len c, .int .i64 T] w fun e w' => e = .returned (.int .i64 3) ∧ Chg [] w w' := by
  obtain ⟨pr, cr, hvr⟩ := win_sl h.r
  obtain ⟨pg, cg, hvg⟩ := win_sl h.g
  have c0 := h.c0
  have c1 := h.c1
  rw [hvr] at c0
  rw [hvg] at c1
  obtain ⟨x, hx⟩ : ∃ x, x = rl.length := ⟨_, rfl⟩
  obtain ⟨y, hy⟩ : ∃ y, y = gl.length := ⟨_, rfl⟩
  rw [← hx] at c0 hl hr
  rw [← hy] at c1 hl hg
  have e1 : ((len : Int) != (x : Int) + (y : Int)) = true := by simp; omega
  have e2 : ((len : Int) = (x : Int) + (y : Int)) = False := by simp; omega
  have e3 : ((len : Int) == (x : Int) + (y : Int)) = false := by simp; omega
  have ew : IntKind.i64.wrap ((x : Int) + (y : Int)) = (x : Int) + (y : Int) := by rw [IntKind.wrap_i64]; omega
  clear h hvr hvg hx hy hl
  go_enter Try.func22, Try.ntmps22
  go_wp2
  refine wp_region_C (fun w' => w'.cell? ⟨b, 0, none⟩ = some (.slice pr x cr) ∧ w'.cell? ⟨b, 1, none⟩ = some (.slice pg y cg)) [(0, 0), (1, 0), (2, 0), (3, 0), (4, 0), (5, 1), (6, 0), (7, 0), (8, 0), (9, 0), (10, 1), (11, 0), (12, 0), (13, 0)] rfl (by kernel_rfl) ?hSA ?hTA
  case hSA => exact ⟨c0, c1⟩
  refine wpT_pureD (v := ?_) (some 11) rfl rfl (by rfl) (fun w' => ?_) ?_
  rotate_left
  · (go_simp; try with_reducible rfl)
  try simp only [Act.put, List.setIfInBounds_toArray, List.set_cons_zero, List.set_cons_succ]
  refine wpT_pureD (v := ?_) (some 12) rfl rfl (by rfl) (fun w' => ?_) ?_
  rotate_left
  · (go_simp; try with_reducible rfl)
  try simp only [Act.put, List.setIfInBounds_toArray, List.set_cons_zero, List.set_cons_succ]
  refine wpT_pureD (v := ?_) (some 13) rfl rfl (by rfl) (fun w' => ?_) ?_
  rotate_left
  · (go_simp; try with_reducible rfl)
  try simp only [Act.put, List.setIfInBounds_toArray, List.set_cons_zero, List.set_cons_succ]
  refine wpT_pureD (v := ?_) (some 14) rfl rfl (by rfl) (fun w' => ?_) ?_
  rotate_left
  · (go_simp; try with_reducible rfl)
  try simp only [Act.put, List.setIfInBounds_toArray, List.set_cons_zero, List.set_cons_succ]
  refine wpT_pureD (v := ?_) (some 15) rfl rfl (by rfl) (fun w' => ?_) ?_
  rotate_left
  · (go_simp; try with_reducible rfl)
  try simp only [Act.put, List.setIfInBounds_toArray, List.set_cons_zero, List.set_cons_succ]
  refine wpT_readD (v := ?_) (some 16) rfl rfl (by rfl) (fun w' hw => ?_) ?_
  rotate_left
  · (obtain ⟨q0, q1⟩ := hw; go_simp; try with_reducible rfl)
  try simp only [Act.put, List.setIfInBounds_toArray, List.set_cons_zero, List.set_cons_succ]
  refine wpT_pureD (v := ?_) (some 17) rfl rfl (by rfl) (fun w' => ?_) ?_
  rotate_left
  · (go_simp; try with_reducible rfl)
  try simp only [Act.put, List.setIfInBounds_toArray, List.set_cons_zero, List.set_cons_succ]
  refine wpT_pureD (v := ?_) (some 18) rfl rfl (by rfl) (fun w' => ?_) ?_
  rotate_left
  · (go_simp; try with_reducible rfl)
  try simp only [Act.put, List.setIfInBounds_toArray, List.set_cons_zero, List.set_cons_succ]
  refine wpT_pureD (v := ?_) (some 19) rfl rfl (by rfl) (fun w' => ?_) ?_
  rotate_left
  · (go_simp; try with_reducible rfl)
  try simp only [Act.put, List.setIfInBounds_toArray, List.set_cons_zero, List.set_cons_succ]
  refine wpT_pureD (v := ?_) (some 20) rfl rfl (by rfl) (fun w' => ?_) ?_
  rotate_left
  · (go_simp; try with_reducible rfl)
  try simp only [Act.put, List.setIfInBounds_toArray, List.set_cons_zero, List.set_cons_succ]
  refine wpT_readD (v := ?_) (some 21) rfl rfl (by rfl) (fun w' hw => ?_) ?_
  rotate_left
  · (obtain ⟨q0, q1⟩ := hw; go_simp; try with_reducible rfl)
  try simp only [Act.put, List.setIfInBounds_toArray, List.set_cons_zero, List.set_cons_succ]
  refine wpT_pureD (v := ?_) (some 22) rfl rfl (by rfl) (fun w' => ?_) ?_
  rotate_left
  · (go_simp; try with_reducible rfl)
  try simp only [Act.put, List.setIfInBounds_toArray, List.set_cons_zero, List.set_cons_succ]
  refine wpT_pureD (v := ?_) (some 23) rfl rfl (by rfl) (fun w' => ?_) ?_
  rotate_left
  · (go_simp; try with_reducible rfl)
  try simp only [Act.put, List.setIfInBounds_toArray, List.set_cons_zero, List.set_cons_succ]
  refine wpT_pureD (v := ?_) (some 24) rfl rfl (by rfl) (fun w' => ?_) ?_
  rotate_left
  · (go_simp; try with_reducible rfl)
  try simp only [Act.put, List.setIfInBounds_toArray, List.set_cons_zero, List.set_cons_succ]
  refine wpT_end ?_
  go_wp2
  go_ret
  exact ⟨rfl, (Chg.refl _ _).drew⟩
set_option maxRecDepth 8000 in
set_option maxHeartbeats 3200000 in
theorem rset_in {w b rl gl f vr vg} (h : Rw w b rl gl f vr vg) (n : Nat) (hn : n = rl.length + gl.length) (h0 : 0 < n) (h4 : n ≤ 4) (sb so c : Nat) (L : Nat → Sta) (hL : Lies w sb so n L) (T : Int) (hTr : -9223372036854775808 ≤ T ∧ T ≤ 9223372036854775807) :
    Calls Try.prog 22 #[.pointer (some ⟨b, 0, none⟩), .slice (some ⟨sb, so, none⟩) n c, .int .i64 T] w (rsetQ w b n L T) := by
  obtain ⟨i0, hi0, hz0, hz1, hz2⟩ := info_parts info54
  obtain ⟨pr, cr, hvr⟩ := win_sl h.r
  obtain ⟨pg, cg, hvg⟩ := win_sl h.g
  have c0 := h.c0
  have c1 := h.c1
  rw [hvr] at c0
  rw [hvg] at c1
  obtain ⟨x, hx⟩ : ∃ x, x = rl.length := ⟨_, rfl⟩
  obtain ⟨y, hy⟩ : ∃ y, y = gl.length := ⟨_, rfl⟩
  rw [← hx] at c0 hn
  rw [← hy] at c1 hn
  have e1 : ((n : Int) != (x : Int) + (y : Int)) = false := by simp; omega
  have ew : IntKind.i64.wrap ((x : Int) + (y : Int)) = (x : Int) + (y : Int) := by rw [IntKind.wrap_i64]; omega
  obtain ⟨B, hB⟩ : ∃ B, B = w.heap.size := ⟨_, rfl⟩
  obtain ⟨V, hV⟩ : ∃ V, V = (w.alloc (.cells #[.slice none 0 0, .slice none 0 0] 52)).drew := ⟨_, rfl⟩
  have hCV : Chg [] w V := by rw [hV]; exact ((Chg.refl _ _).alloc _).drew
  have hI0 : SetI w V B [] [] L := ⟨⟨.slice none 0 0, .slice none 0 0, ⟨by rw [hV, row_drew]; exact row_alloc_at _ _ _ _ hB, win_nil _ _, win_nil _ _, by simp [Value.ownBlock], by simp [Value.ownBlock], by simp [Value.ownBlock]⟩, by simp [Value.ownBlock], by simp [Value.ownBlock]⟩, hCV, by omega⟩
  have HI0 := Lib.hid hI0
  have HR := Lib.hid h
  have HL := Lib.hid hL
  have HN := Lib.hid h4
  have H0 := Lib.hid h0
  have HV := Lib.hid hV
  have HB := Lib.hid hB
  have HTR := Lib.hid hTr
  clear h hvr hvg hx hy hn hL hI0 hCV hV hB hTr
  go_enter Try.func22, Try.ntmps22
  go_wp2
  refine wp_region_C (fun w' => w'.cell? ⟨b, 0, none⟩ = some (.slice pr x cr) ∧ w'.cell? ⟨b, 1, none⟩ = some (.slice pg y cg)) [(0, 0), (1, 0), (2, 0), (3, 0), (4, 0), (5, 1), (6, 0), (7, 0), (8, 0), (9, 0), (10, 1), (11, 0), (12, 0), (13, 0)] rfl (by kernel_rfl) ?hSA ?hTA
  case hSA => exact ⟨c0, c1⟩
  refine wpT_pureD (v := ?_) (some 11) rfl rfl (by rfl) (fun w' => ?_) ?_
  rotate_left
  · (go_simp; try with_reducible rfl)
  try simp only [Act.put, List.setIfInBounds_toArray, List.set_cons_zero, List.set_cons_succ]
  refine wpT_pureD (v := ?_) (some 12) rfl rfl (by rfl) (fun w' => ?_) ?_
  rotate_left
  · (go_simp; try with_reducible rfl)
  try simp only [Act.put, List.setIfInBounds_toArray, List.set_cons_zero, List.set_cons_succ]
  refine wpT_pureD (v := ?_) (some 13) rfl rfl (by rfl) (fun w' => ?_) ?_
  rotate_left
  · (go_simp; try with_reducible rfl)
  try simp only [Act.put, List.setIfInBounds_toArray, List.set_cons_zero, List.set_cons_succ]
  refine wpT_pureD (v := ?_) (some 14) rfl rfl (by rfl) (fun w' => ?_) ?_
  rotate_left
  · (go_simp; try with_reducible rfl)
  try simp only [Act.put, List.setIfInBounds_toArray, List.set_cons_zero, List.set_cons_succ]
  refine wpT_pureD (v := ?_) (some 15) rfl rfl (by rfl) (fun w' => ?_) ?_
  rotate_left
  · (go_simp; try with_reducible rfl)
  try simp only [Act.put, List.setIfInBounds_toArray, List.set_cons_zero, List.set_cons_succ]
  refine wpT_readD (v := ?_) (some 16) rfl rfl (by rfl) (fun w' hw => ?_) ?_
  rotate_left
  · (obtain ⟨q0, q1⟩ := hw; go_simp; try with_reducible rfl)
  try simp only [Act.put, List.setIfInBounds_toArray, List.set_cons_zero, List.set_cons_succ]
  refine wpT_pureD (v := ?_) (some 17) rfl rfl (by rfl) (fun w' => ?_) ?_
  rotate_left
  · (go_simp; try with_reducible rfl)
  try simp only [Act.put, List.setIfInBounds_toArray, List.set_cons_zero, List.set_cons_succ]
  refine wpT_pureD (v := ?_) (some 18) rfl rfl (by rfl) (fun w' => ?_) ?_
  rotate_left
  · (go_simp; try with_reducible rfl)
  try simp only [Act.put, List.setIfInBounds_toArray, List.set_cons_zero, List.set_cons_succ]
  refine wpT_pureD (v := ?_) (some 19) rfl rfl (by rfl) (fun w' => ?_) ?_
  rotate_left
  · (go_simp; try with_reducible rfl)
  try simp only [Act.put, List.setIfInBounds_toArray, List.set_cons_zero, List.set_cons_succ]
  refine wpT_pureD (v := ?_) (some 20) rfl rfl (by rfl) (fun w' => ?_) ?_
  rotate_left
  · (go_simp; try with_reducible rfl)
  try simp only [Act.put, List.setIfInBounds_toArray, List.set_cons_zero, List.set_cons_succ]
  refine wpT_readD (v := ?_) (some 21) rfl rfl (by rfl) (fun w' hw => ?_) ?_
  rotate_left
  · (obtain ⟨q0, q1⟩ := hw; go_simp; try with_reducible rfl)
  try simp only [Act.put, List.setIfInBounds_toArray, List.set_cons_zero, List.set_cons_succ]
  refine wpT_pureD (v := ?_) (some 22) rfl rfl (by rfl) (fun w' => ?_) ?_
  rotate_left
  · (go_simp; try with_reducible rfl)
  try simp only [Act.put, List.setIfInBounds_toArray, List.set_cons_zero, List.set_cons_succ]
  refine wpT_pureD (v := ?_) (some 23) rfl rfl (by rfl) (fun w' => ?_) ?_
  rotate_left
  · (go_simp; try with_reducible rfl)
  try simp only [Act.put, List.setIfInBounds_toArray, List.set_cons_zero, List.set_cons_succ]
  refine wpT_pureD (v := ?_) (some 24) rfl rfl (by rfl) (fun w' => ?_) ?_
  rotate_left
  · (go_simp; try with_reducible rfl)
  try simp only [Act.put, List.setIfInBounds_toArray, List.set_cons_zero, List.set_cons_succ]
  refine wpT_end ?_
  go_upto_region 4 with (fail)
  rw [← HB.out, ← HV.out]
  clear c0 c1 e1 ew
  go_wp2_with fail
  go_loopw [8, 9, 10] (fun i _ _ wr => ∃ k : Nat, k ≤ n ∧ i = .int .i64 k ∧ SetI w wr B (rdy L (tau T n) n k) (gon L (tau T n) n k) L ∧ ∀ j, j < k → okSta (L ((tau T n + j) % n))) (fun i _ _ _ => n - (intOf i).toNat)
  case atStart => exact ⟨0, by omega, rfl, by simpa [rdy, gon] using HI0.out, fun j hj => by omega⟩
  case round =>
    obtain ⟨k, hk, rfl, hI, hok⟩ := hrel
    have HI := Lib.hid hI
    have HOK := Lib.hid hok
    clear hI hok
    by_cases hk2 : k < n
    · have dk : decide ((k : Int) < (n : Int)) = true := by simp; omega
      have hkI : (k : Int) < (n : Int) := by omega
      obtain ⟨i, hi⟩ : ∃ i, i = (tau T n + k) % n := ⟨_, rfl⟩
      have hin : i < n := by rw [hi]; exact Nat.mod_lt _ h0
      have hinI : (i : Int) < (n : Int) := by omega
      have hsucc := rdy_succ (L := L) (τ := tau T n) hk2
      have hsucc2 := gon_succ (L := L) (τ := tau T n) hk2
      rw [← hi] at hsucc hsucc2
      have HII := Lib.hid hi
      have HSU := Lib.hid hsucc
      have HSU2 := Lib.hid hsucc2
      clear hsucc hsucc2 hi
      go_upto_if 35 with (fail)
      go_cut [9] (fun v wx => v = .int .i64 i ∧ wx = wr)
      case first =>
        have hi := HII.out
        by_cases hT : 0 ≤ T
        · obtain ⟨tt, rfl⟩ : ∃ tt : Nat, T = tt := ⟨T.toNat, by omega⟩
          have hm : (wrap64 ((tt : Int) % (n : Int) + (k : Int))).tmod (n : Int) = (i : Int) := by
            have h1 : tt % n < n := Nat.mod_lt _ h0
            rw [show (tt : Int) % (n : Int) = ((tt % n : Nat) : Int) by simp, IntWalk.wrap64_in _ ⟨by omega, by omega⟩]
            rw [Int.tmod_eq_emod_of_nonneg (by omega), hi]; unfold tau; rw [if_pos (by omega)]; simp
          have HM := Lib.hid hm
          clear hi hm hin hinI
          go_wp2_with fail
          rw [HM.out]
          clear hk hk2 hkI dk h0 h4 hT
          go_meet
          exact ⟨rfl, rfl⟩
        · have dT : decide (T ≥ 0) = false := by simp; omega
          have dT2 : (0 ≤ T) = False := by simpa using hT
          have dT3 : T < 0 := by omega
          have hik : k = i := by rw [hi]; unfold tau; rw [if_neg hT]; simp [Nat.mod_eq_of_lt hk2]
          have HIK := Lib.hid hik
          clear hi hik hT hin hinI
          go_wp2_with fail
          clear hk hk2 hkI dk h0 h4 dT dT2 dT3
          go_meet
          exact ⟨by rw [HIK.out], rfl⟩
      case rest =>
        obtain ⟨rfl, rfl⟩ := hcut
        obtain ⟨S, hS⟩ : ∃ S, S = L i := ⟨_, rfl⟩
        have HLr := HL.out.keep HI.out.chg (by simp) i hin
        rw [← hS] at HLr
        have HLK := Lib.hid HLr
        obtain ⟨bt, hbt⟩ : ∃ x, x = wc.heap.size := ⟨_, rfl⟩
        obtain ⟨Z, hZ⟩ : ∃ Z, Z = wc.alloc (.cells (stL S).toArray 40) := ⟨_, rfl⟩
        have rz : Z.row? bt = some (stL S).toArray := by rw [hZ]; exact row_alloc_at _ _ _ _ hbt
        have z0 : Z.cell? ⟨bt, 0, none⟩ = some (.int .i64 S.s) := by rw [row_cell rz]; simpa using stL_0 S
        have z1 : Z.cell? ⟨bt, 1, none⟩ = some (.int .u32 (S.c : Int)) := by rw [row_cell rz]; simpa using stL_1 S
        have z3 : Z.cell? ⟨bt, 3, none⟩ = some (.int .u32 (S.x 0 : Int)) := by rw [row_cell rz]; simpa using stL_x S 0 (by omega)
        have HCZ : Hid (Chg [] wc Z) := Lib.hid (by rw [hZ]; exact (Chg.refl _ _).alloc _)
        have HIZ := Lib.hid (HI.out.keep HCZ.out)
        have hln := stL_len S
        have hsz : (stL S).toArray.size = 35 := by simp [stL_len]
        have hall := stL_allOne S
        have hlz : ∀ j u, (stL S)[j]? = some u → Z.cell? ⟨bt, j, none⟩ = some u := fun j u hu => by rw [row_cell rz]; simpa using hu
        have HLZ := Lib.hid hlz
        have HS := Lib.hid hS
        have HIN := Lib.hid hin
        have hoL : oneL L i = .int .i64 (i : Int) :: stL S := by rw [hS]; rfl
        have HOL := Lib.hid hoL
        obtain ⟨l, hl⟩ : ∃ l, l = stL S := ⟨_, rfl⟩
        rw [← hl] at HLK hln hsz hall hZ HLZ HOL
        have HLL := Lib.hid hl
        clear HLr rz hl hS hlz hoL
        go_upto_region 11 with (first | refine wpList_load_part a40 l rfl _ rfl rfl hln HLK.out ?_ | refine wpList_store_new a40 _ _ rfl rfl rfl rfl rfl rfl hsz hall ?_)
        rw [← hbt, ← hZ]
        clear hbt hZ
        by_cases hok : okSta S
        · have HOKS := Lib.hid hok
          obtain ⟨a1, a2, a3, a4⟩ := hok
          have e1 : decide (S.s < 0) = false := by simp; omega
          have e2 : decide (S.s > 2) = false := by simp; omega
          have e2' : decide (2 < S.s) = false := by simp; omega
          rw [a3] at z3
          by_cases hz : S.s = 0
          · have hc0 : S.c = 0 := Decidable.byContradiction fun hh => a4 ⟨hz, hh⟩
            have hsu := HSU.out
            have hsu2 := HSU2.out
            rw [← HS.out, if_pos hz] at hsu hsu2
            have HSV := Lib.hid hsu
            have HSV2 := Lib.hid hsu2
            rw [hz] at z0
            rw [hc0] at z1
            clear a1 a2 a3 a4 hz hc0 hsu hsu2
            obtain ⟨vr1, vg1, hRw, ho1, ho2⟩ := HIZ.out.ex
            obtain ⟨p1, k1, hv1⟩ := win_sl hRw.r
            have c0 := hRw.c0
            rw [hv1] at c0
            obtain ⟨m, hm⟩ : ∃ m, m = (rdy L (tau T n) n k).length := ⟨_, rfl⟩
            rw [← hm] at c0 hv1
            have HM := Lib.hid hm
            have HM4 : Hid (m ≤ 4) := Lib.hid (by rw [hm]; have := rdy_len L (tau T n) n k; omega)
            have HV1 := Lib.hid hv1
            have HRW := Lib.hid hRw
            have HO1 := Lib.hid ho1
            have HO2 := Lib.hid ho2
            clear hRw hv1 ho1 ho2 hm
            go_upto_region 14 with (fail)
            refine wp_region_C (fun w' => w'.cell? ⟨B, 0, none⟩ = some (.slice p1 m k1) ∧ ∀ j u, l[j]? = some u → w'.cell? ⟨bt, j, none⟩ = some u) [(0, 0), (1, 0), (2, 0), (3, 0), (4, 1), (5, 0), (6, 1), (7, 0), (8, 2), (9, 3), (10, 0), (11, 0), (12, 3)] rfl (by kernel_rfl) ?hSB ?hTB
            case hSB => exact ⟨c0, HLZ.out⟩
            refine wpT_pureD (v := ?_) (some 76) rfl rfl (by rfl) (fun w' => ?_) ?_
            rotate_left
            · (go_simp; try with_reducible rfl)
            try simp only [Act.put, List.setIfInBounds_toArray, List.set_cons_zero, List.set_cons_succ]
            refine wpT_pureD (v := ?_) (some 77) rfl rfl (by rfl) (fun w' => ?_) ?_
            rotate_left
            · (go_simp; try with_reducible rfl)
            try simp only [Act.put, List.setIfInBounds_toArray, List.set_cons_zero, List.set_cons_succ]
            refine wpT_pureD (v := ?_) (some 78) rfl rfl (by rfl) (fun w' => ?_) ?_
            rotate_left
            · (go_simp; try with_reducible rfl)
            try simp only [Act.put, List.setIfInBounds_toArray, List.set_cons_zero, List.set_cons_succ]
            refine wpT_pureD (v := ?_) (some 79) rfl rfl (by rfl) (fun w' => ?_) ?_
            rotate_left
            · (go_simp; try with_reducible rfl)
            try simp only [Act.put, List.setIfInBounds_toArray, List.set_cons_zero, List.set_cons_succ]
            refine wpT_readD (v := ?_) (some 80) rfl rfl (by rfl) (fun w' hw => ?_) ?_
            rotate_left
            · (obtain ⟨q0, q1⟩ := hw; go_simp; try with_reducible rfl)
            try simp only [Act.put, List.setIfInBounds_toArray, List.set_cons_zero, List.set_cons_succ]
            refine wpT_pureD (v := ?_) (some 81) rfl rfl (by rfl) (fun w' => ?_) ?_
            rotate_left
            · (go_simp; try with_reducible rfl)
            try simp only [Act.put, List.setIfInBounds_toArray, List.set_cons_zero, List.set_cons_succ]
            refine wpT_load_part a40 l (some 82) _ rfl rfl rfl (by rfl) rfl hln (fun w' hw j u hu => by rw [Nat.zero_add]; exact hw.2 j u hu) ?_
            try simp only [Act.put, List.setIfInBounds_toArray, List.set_cons_zero, List.set_cons_succ]
            try simp only [Act.put, List.setIfInBounds_toArray, List.set_cons_zero, List.set_cons_succ]
            refine wpT_pureD (v := ?_) (some 83) rfl rfl (by rfl) (fun w' => ?_) ?_
            rotate_left
            · (go_simp; try with_reducible rfl)
            try simp only [Act.put, List.setIfInBounds_toArray, List.set_cons_zero, List.set_cons_succ]
            rw [fold_zip_d 1 _ _ (by rw [hln]; rfl)]
            simp only [List.take_succ_cons, List.take_zero, List.cons_append, List.nil_append]
            rw [← HOL.out]
            have hl36 := oneL_len L i
            try simp only [Act.put, List.setIfInBounds_toArray, List.set_cons_zero, List.set_cons_succ]
            refine wpT_eff rfl (by rfl) (fun K hK => ?_)
            go_wp2_with fail
            rw [fold_zip _ _ (by rw [hl36]; rfl)]
            have hZU : Chg [] Z (Z.alloc (.cells (oneL L i).toArray 54)).drew := ((Chg.refl [] Z).alloc _).drew
            have h2 := (win_one (w := Z) (oneL L i) 54 hl36).keep ((Chg.refl [] _).drew) (by simp)
            obtain ⟨H, hH⟩ : ∃ H, H = Z.heap.size := ⟨_, rfl⟩
            obtain ⟨U, hU⟩ : ∃ U, U = (Z.alloc (.cells (oneL L i).toArray 54)).drew := ⟨_, rfl⟩
            rw [← hU] at h2 hZU
            rw [← hH] at h2
            rw [← hU, ← hH]
            have HZU := Lib.hid hZU
            have H2 := Lib.hid h2
            have hS : U.cell? ⟨B, 0, none⟩ = some (Value.slice p1 m k1) ∧ ∀ j u, l[j]? = some u → U.cell? ⟨bt, j, none⟩ = some u := by
              have hx := HRW.out.keep0 hZU
              refine ⟨by rw [hx.c0, HV1.out], fun j u hu => ?_⟩
              have hq := HLZ.out j u hu
              rw [World.cell?_of_block (w := Z) (hZU.block bt (by simpa using World.block_lt_of_cell? Z _ hq) (by simp))]
              exact hq
            have HSS := Lib.hid hS
            clear h2 hZU hU hH hS
            refine hK _ _ HSS.out ?_
            clear hK K HSS c0
            refine wpT_brk rfl (by rfl) (fun K hK => ?_)
            have HGW : Hid (Win U 36 (Value.slice p1 m k1) m (ol L (rdy L (tau T n) n k))) := Lib.hid (by have := (HRW.out.keep0 HZU.out).r; rw [HV1.out, ← HM.out] at this; exact this)
            refine wpList_append_any rfl _ _ 50 rfl 54 i0 _ 36 152 Try.underlying50 hi0 hz0 hz1 hz2 rfl (Value.slice p1 m k1) m (ol L (rdy L (tau T n) n k)) rfl HGW.out _ 1 (oneL L i) rfl H2.out (oneL_all L i) (by have := HM4.out; unfold maxLen; omega) (by have := HM4.out; omega) ?_
            intro v3 W3 x1 x2 x3
            obtain ⟨p3, c3, rfl, -⟩ := x1.form
            rw [← HV1.out] at x2 x3
            have hc3 : Chg vr1.ownBlock.toList Z W3 := (chgE HZU.out (by simp)).trans x2
            have hx3 : (Value.slice p3 (m + 1) c3).ownBlock = vr1.ownBlock ∨ ∀ x, (Value.slice p3 (m + 1) c3).ownBlock = some x → Z.heap.size ≤ x := x3.imp id fun h x hx => by
              rw [h] at hx; simp at hx; have := HZU.out.size; omega
            obtain ⟨hs1, hs2⟩ := HRW.out.setR (v' := .slice p3 (m + 1) c3) (rl' := rdy L (tau T n) n k ++ [i]) hc3 (by
              rw [← ol_snoc, List.length_append, ← HM.out]; exact x1) hx3
            have hwZ : w.heap.size ≤ Z.heap.size := HIZ.out.chg.size
            have hown : ∀ x, (Value.slice p3 (m + 1) c3).ownBlock = some x → w.heap.size ≤ x := fun x hx => by
              rcases hx3 with h | h
              · exact HO1.out x (by rw [← h]; exact hx)
              · have := h x hx; omega
            have hI3 : SetI w (W3.setCell ⟨B, 0, none⟩ (.slice p3 (m + 1) c3)) B (rdy L (tau T n) n (k + 1)) (gon L (tau T n) n (k + 1)) L := by
              rw [HSV.out, HSV2.out]
              refine ⟨⟨_, _, hs1, hown, HO2.out⟩, ?_, HIZ.out.new⟩
              refine chg_past HIZ.out.chg hs2 fun x hx => ?_
              rcases List.mem_cons.1 hx with rfl | hx
              · exact HIZ.out.new
              · exact HO1.out x (by simpa using hx)
            have HI3 := Lib.hid hI3
            have hr3 : W3.row? B = some #[vr1, vg1] := by rw [hc3.row HRW.out.lt (fun hm => HRW.out.nr B (by simpa using hm) rfl)]; exact HRW.out.row
            have y1 : W3.cell? ⟨B, 0, none⟩ = some vr1 := by rw [row_cell hr3]; rfl
            have y2 := row_free hr3 0
            clear x1 x2 x3 hc3 hr3 hx3 hs1 hs2 hwZ hown hI3
            refine wpList_nil ?_
            refine hK _ _ ?_
            clear hK K
            refine wpT_pureD (v := ?_) (some 86) rfl rfl (by rfl) (fun w' => ?_) ?_
            rotate_left
            · (go_simp; try with_reducible rfl)
            try simp only [Act.put, List.setIfInBounds_toArray, List.set_cons_zero, List.set_cons_succ]
            refine wpT_pureD (v := ?_) (some 87) rfl rfl (by rfl) (fun w' => ?_) ?_
            rotate_left
            · (go_simp; try with_reducible rfl)
            try simp only [Act.put, List.setIfInBounds_toArray, List.set_cons_zero, List.set_cons_succ]
            refine wpT_brk rfl (by rfl) (fun K hK => ?_)
            go_wp2_with fail
            refine wpT_end ?_
            have hok2 : ∀ j, j < k + 1 → okSta (L ((tau T n + j) % n)) := fun j hj => by
              by_cases hjk : j < k
              · exact HOK.out j hjk
              · obtain rfl : j = k := by omega
                rw [← HII.out, ← HS.out]; exact HOKS.out
            have HOK2 := Lib.hid hok2
            clear hok2 y1 y2 hl36 hln hsz hall e1 e2 e2' z0 z1 z3
            go_wp2
            exact ⟨⟨k + 1, by omega, by go_num, HI3.out, HOK2.out⟩, by simp only [intOf]; omega⟩
          · have e3 : (S.s == 0) = false := by simpa using hz
            have e4 : (S.s = 0) = False := by simpa using hz
            have hsu := HSU.out
            have hsu2 := HSU2.out
            rw [← HS.out, if_neg hz] at hsu hsu2
            have HSV := Lib.hid hsu
            have HSV2 := Lib.hid hsu2
            clear a1 a2 a3 a4 hz hsu hsu2
            obtain ⟨vr1, vg1, hRw, ho1, ho2⟩ := HIZ.out.ex
            obtain ⟨p1, k1, hv1⟩ := win_sl hRw.g
            have c1 := hRw.c1
            rw [hv1] at c1
            obtain ⟨m, hm⟩ : ∃ m, m = (gon L (tau T n) n k).length := ⟨_, rfl⟩
            rw [← hm] at c1 hv1
            have HM := Lib.hid hm
            have HM4 : Hid (m ≤ 4) := Lib.hid (by rw [hm]; have := gon_len L (tau T n) n k; omega)
            have HV1 := Lib.hid hv1
            have HRW := Lib.hid hRw
            have HO1 := Lib.hid ho1
            have HO2 := Lib.hid ho2
            clear hRw hv1 ho1 ho2 hm
            go_upto_region 15 with (fail)
            refine wp_region_C (fun w' => w'.cell? ⟨B, 1, none⟩ = some (.slice p1 m k1) ∧ ∀ j u, l[j]? = some u → w'.cell? ⟨bt, j, none⟩ = some u) [(0, 0), (1, 0), (2, 0), (3, 0), (4, 1), (5, 0), (6, 1), (7, 0), (8, 2), (9, 3), (10, 0), (11, 0), (12, 3)] rfl (by kernel_rfl) ?hSC ?hTC
            case hSC => exact ⟨c1, HLZ.out⟩
            refine wpT_pureD (v := ?_) (some 88) rfl rfl (by rfl) (fun w' => ?_) ?_
            rotate_left
            · (go_simp; try with_reducible rfl)
            try simp only [Act.put, List.setIfInBounds_toArray, List.set_cons_zero, List.set_cons_succ]
            refine wpT_pureD (v := ?_) (some 89) rfl rfl (by rfl) (fun w' => ?_) ?_
            rotate_left
            · (go_simp; try with_reducible rfl)
            try simp only [Act.put, List.setIfInBounds_toArray, List.set_cons_zero, List.set_cons_succ]
            refine wpT_pureD (v := ?_) (some 90) rfl rfl (by rfl) (fun w' => ?_) ?_
            rotate_left
            · (go_simp; try with_reducible rfl)
            try simp only [Act.put, List.setIfInBounds_toArray, List.set_cons_zero, List.set_cons_succ]
            refine wpT_pureD (v := ?_) (some 91) rfl rfl (by rfl) (fun w' => ?_) ?_
            rotate_left
            · (go_simp; try with_reducible rfl)
            try simp only [Act.put, List.setIfInBounds_toArray, List.set_cons_zero, List.set_cons_succ]
            refine wpT_readD (v := ?_) (some 92) rfl rfl (by rfl) (fun w' hw => ?_) ?_
            rotate_left
            · (obtain ⟨q0, q1⟩ := hw; go_simp; try with_reducible rfl)
            try simp only [Act.put, List.setIfInBounds_toArray, List.set_cons_zero, List.set_cons_succ]
            refine wpT_pureD (v := ?_) (some 93) rfl rfl (by rfl) (fun w' => ?_) ?_
            rotate_left
            · (go_simp; try with_reducible rfl)
            try simp only [Act.put, List.setIfInBounds_toArray, List.set_cons_zero, List.set_cons_succ]
            refine wpT_load_part a40 l (some 94) _ rfl rfl rfl (by rfl) rfl hln (fun w' hw j u hu => by rw [Nat.zero_add]; exact hw.2 j u hu) ?_
            try simp only [Act.put, List.setIfInBounds_toArray, List.set_cons_zero, List.set_cons_succ]
            try simp only [Act.put, List.setIfInBounds_toArray, List.set_cons_zero, List.set_cons_succ]
            refine wpT_pureD (v := ?_) (some 95) rfl rfl (by rfl) (fun w' => ?_) ?_
            rotate_left
            · (go_simp; try with_reducible rfl)
            try simp only [Act.put, List.setIfInBounds_toArray, List.set_cons_zero, List.set_cons_succ]
            rw [fold_zip_d 1 _ _ (by rw [hln]; rfl)]
            simp only [List.take_succ_cons, List.take_zero, List.cons_append, List.nil_append]
            rw [← HOL.out]
            have hl36 := oneL_len L i
            try simp only [Act.put, List.setIfInBounds_toArray, List.set_cons_zero, List.set_cons_succ]
            refine wpT_eff rfl (by rfl) (fun K hK => ?_)
            go_wp2_with fail
            rw [fold_zip _ _ (by rw [hl36]; rfl)]
            have hZU : Chg [] Z (Z.alloc (.cells (oneL L i).toArray 54)).drew := ((Chg.refl [] Z).alloc _).drew
            have h2 := (win_one (w := Z) (oneL L i) 54 hl36).keep ((Chg.refl [] _).drew) (by simp)
            obtain ⟨H, hH⟩ : ∃ H, H = Z.heap.size := ⟨_, rfl⟩
            obtain ⟨U, hU⟩ : ∃ U, U = (Z.alloc (.cells (oneL L i).toArray 54)).drew := ⟨_, rfl⟩
            rw [← hU] at h2 hZU
            rw [← hH] at h2
            rw [← hU, ← hH]
            have HZU := Lib.hid hZU
            have H2 := Lib.hid h2
            have hS : U.cell? ⟨B, 1, none⟩ = some (Value.slice p1 m k1) ∧ ∀ j u, l[j]? = some u → U.cell? ⟨bt, j, none⟩ = some u := by
              have hx := HRW.out.keep0 hZU
              refine ⟨by rw [hx.c1, HV1.out], fun j u hu => ?_⟩
              have hq := HLZ.out j u hu
              rw [World.cell?_of_block (w := Z) (hZU.block bt (by simpa using World.block_lt_of_cell? Z _ hq) (by simp))]
              exact hq
            have HSS := Lib.hid hS
            clear h2 hZU hU hH hS
            refine hK _ _ HSS.out ?_
            clear hK K HSS c1
            refine wpT_brk rfl (by rfl) (fun K hK => ?_)
            have HGW : Hid (Win U 36 (Value.slice p1 m k1) m (ol L (gon L (tau T n) n k))) := Lib.hid (by have := (HRW.out.keep0 HZU.out).g; rw [HV1.out, ← HM.out] at this; exact this)
            refine wpList_append_any rfl _ _ 50 rfl 54 i0 _ 36 152 Try.underlying50 hi0 hz0 hz1 hz2 rfl (Value.slice p1 m k1) m (ol L (gon L (tau T n) n k)) rfl HGW.out _ 1 (oneL L i) rfl H2.out (oneL_all L i) (by have := HM4.out; unfold maxLen; omega) (by have := HM4.out; omega) ?_
            intro v3 W3 x1 x2 x3
            obtain ⟨p3, c3, rfl, -⟩ := x1.form
            rw [← HV1.out] at x2 x3
            have hc3 : Chg vg1.ownBlock.toList Z W3 := (chgE HZU.out (by simp)).trans x2
            have hx3 : (Value.slice p3 (m + 1) c3).ownBlock = vg1.ownBlock ∨ ∀ x, (Value.slice p3 (m + 1) c3).ownBlock = some x → Z.heap.size ≤ x := x3.imp id fun h x hx => by
              rw [h] at hx; simp at hx; have := HZU.out.size; omega
            obtain ⟨hs1, hs2⟩ := HRW.out.setG (v' := .slice p3 (m + 1) c3) (gl' := gon L (tau T n) n k ++ [i]) hc3 (by
              rw [← ol_snoc, List.length_append, ← HM.out]; exact x1) hx3
            have hwZ : w.heap.size ≤ Z.heap.size := HIZ.out.chg.size
            have hown : ∀ x, (Value.slice p3 (m + 1) c3).ownBlock = some x → w.heap.size ≤ x := fun x hx => by
              rcases hx3 with h | h
              · exact HO2.out x (by rw [← h]; exact hx)
              · have := h x hx; omega
            have hI3 : SetI w (W3.setCell ⟨B, 1, none⟩ (.slice p3 (m + 1) c3)) B (rdy L (tau T n) n (k + 1)) (gon L (tau T n) n (k + 1)) L := by
              rw [HSV.out, HSV2.out]
              refine ⟨⟨_, _, hs1, HO1.out, hown⟩, ?_, HIZ.out.new⟩
              refine chg_past HIZ.out.chg hs2 fun x hx => ?_
              rcases List.mem_cons.1 hx with rfl | hx
              · exact HIZ.out.new
              · exact HO2.out x (by simpa using hx)
            have HI3 := Lib.hid hI3
            have hr3 : W3.row? B = some #[vr1, vg1] := by rw [hc3.row HRW.out.lt (fun hm => HRW.out.ng B (by simpa using hm) rfl)]; exact HRW.out.row
            have y1 : W3.cell? ⟨B, 1, none⟩ = some vg1 := by rw [row_cell hr3]; rfl
            have y2 := row_free hr3 1
            clear x1 x2 x3 hc3 hr3 hx3 hs1 hs2 hwZ hown hI3
            refine wpList_nil ?_
            refine hK _ _ ?_
            clear hK K
            refine wpT_pureD (v := ?_) (some 98) rfl rfl (by rfl) (fun w' => ?_) ?_
            rotate_left
            · (go_simp; try with_reducible rfl)
            try simp only [Act.put, List.setIfInBounds_toArray, List.set_cons_zero, List.set_cons_succ]
            refine wpT_pureD (v := ?_) (some 99) rfl rfl (by rfl) (fun w' => ?_) ?_
            rotate_left
            · (go_simp; try with_reducible rfl)
            try simp only [Act.put, List.setIfInBounds_toArray, List.set_cons_zero, List.set_cons_succ]
            refine wpT_brk rfl (by rfl) (fun K hK => ?_)
            go_wp2_with fail
            refine wpT_end ?_
            have hok2 : ∀ j, j < k + 1 → okSta (L ((tau T n + j) % n)) := fun j hj => by
              by_cases hjk : j < k
              · exact HOK.out j hjk
              · obtain rfl : j = k := by omega
                rw [← HII.out, ← HS.out]; exact HOKS.out
            have HOK2 := Lib.hid hok2
            clear hok2 y1 y2 hl36 hln hsz hall e1 e2 e2' z0 z1 z3
            go_wp2
            exact ⟨⟨k + 1, by omega, by go_num, HI3.out, HOK2.out⟩, by simp only [intOf]; omega⟩
        · have hbad : ¬ ((∀ i, i < n → okSta (L i)) ∧ headT (rdy L (tau T n) n n) = T) := fun hh => hok (by rw [HS.out]; exact hh.1 i hin)
          have HBAD := Lib.hid hbad
          have HCZ2 : Hid (Chg [] w Z) := Lib.hid HIZ.out.chg
          clear hbad
          by_cases h3 : S.x 0 = 0
          · rw [h3] at z3
            by_cases h1 : S.s < 0
            · have e1 : decide (S.s < 0) = true := by simpa using h1
              clear hok h1 h3
              go_wp2
              go_ret
              exact .inr ⟨HBAD.out, rfl, HCZ2.out⟩
            have e1 : decide (S.s < 0) = false := by simpa using h1
            by_cases h2 : 2 < S.s
            · have e2 : decide (S.s > 2) = true := by simpa using h2
              have e2' : decide (2 < S.s) = true := by simpa using h2
              clear hok h1 h2 h3
              go_wp2
              go_ret
              exact .inr ⟨HBAD.out, rfl, HCZ2.out⟩
            have e2 : decide (S.s > 2) = false := by simpa using h2
            have e2' : decide (2 < S.s) = false := by simpa using h2
            have hz : S.s = 0 ∧ S.c ≠ 0 := Decidable.byContradiction fun hh => hok ⟨by omega, by omega, h3, hh⟩
            obtain ⟨hz, hc⟩ := hz
            rw [hz] at z0
            have e3 : ((S.c : Int) == 0) = false := by simpa using hc
            have e4 : ((S.c : Int) = 0) = False := by simpa using hc
            have e5 : (S.c = 0) = False := by simpa using hc
            clear hok h1 h2 h3 hz hc e1 e2 e2'
            go_wp2
            go_ret
            exact .inr ⟨HBAD.out, rfl, HCZ2.out⟩
          · have e3 : ((S.x 0 : Int) == 0) = false := by simpa using h3
            have e4 : ((S.x 0 : Int) = 0) = False := by simpa using h3
            have e5 : (S.x 0 = 0) = False := by simpa using h3
            clear hok h3
            go_wp2
            go_ret
            exact .inr ⟨HBAD.out, rfl, HCZ2.out⟩
    · obtain rfl : k = n := by omega
      have dk : decide ((k : Int) < (k : Int)) = false := by simp
      have hall : ∀ i, i < k → okSta (L i) := fun i hi => by
        have h1 : (tau T k + (i + k - tau T k % k) % k) % k = i := by
          have h2 : tau T k % k < k := Nat.mod_lt _ h0
          rw [Nat.add_mod, Nat.mod_mod]
          by_cases hle : tau T k % k ≤ i
          · rw [show i + k - tau T k % k = i - tau T k % k + k by omega, Nat.add_mod_right, Nat.mod_eq_of_lt (show i - tau T k % k < k by omega), show tau T k % k + (i - tau T k % k) = i by omega, Nat.mod_eq_of_lt hi]
          · rw [Nat.mod_eq_of_lt (show i + k - tau T k % k < k by omega), show tau T k % k + (i + k - tau T k % k) = i + k by omega, Nat.add_mod_right, Nat.mod_eq_of_lt hi]
        have := HOK.out ((i + k - tau T k % k) % k) (Nat.mod_lt _ h0)
        rwa [h1] at this
      have HALL := Lib.hid hall
      obtain ⟨vr1, vg1, hRw, ho1, ho2⟩ := HI.out.ex
      obtain ⟨R, hR⟩ : ∃ R, R = rdy L (tau T k) k k := ⟨_, rfl⟩
      rw [← hR] at hRw
      have HRR := Lib.hid hR
      obtain ⟨p0, k0, hv0⟩ := win_sl hRw.r
      obtain ⟨p1, k1, hv1⟩ := win_sl hRw.g
      have x0 := hRw.c0
      have x1 := hRw.c1
      rw [hv0] at x0
      rw [hv1] at x1
      have hcw := HI.out.chg
      have hB := HR.out.keep0 hcw
      have y0 : (wr.cell? ⟨b, 0, none⟩) = some vr := hB.c0
      have y1 : (wr.cell? ⟨b, 1, none⟩) = some vg := hB.c1
      have f0 := hB.fr 0
      have f1 := hB.fr 1
      have hnew := HI.out.new
      have hbw := HR.out.lt
      have hbB : b ≠ B := by omega
      have hfin : Rw ((wr.setCell ⟨b, 0, none⟩ vr1).setCell ⟨b, 1, none⟩ vg1) b R (gon L (tau T k) k k) L vr1 vg1 ∧ Chg [b] w ((wr.setCell ⟨b, 0, none⟩ vr1).setCell ⟨b, 1, none⟩ vg1) := by
        have hc : Chg [b] wr ((wr.setCell ⟨b, 0, none⟩ vr1).setCell ⟨b, 1, none⟩ vg1) := ((Chg.refl _ _).setCell (Or.inl (by simp)) _).setCell (Or.inl (by simp)) _
        have n1 : ∀ x, vr1.ownBlock = some x → x ≠ b := fun x hx => by have := ho1 x hx; omega
        have n2 : ∀ x, vg1.ownBlock = some x → x ≠ b := fun x hx => by have := ho2 x hx; omega
        refine ⟨⟨?_, hRw.r.keep hc (fun x hx => by simpa using n1 x hx), hRw.g.keep hc (fun x hx => by simpa using n2 x hx), n1, n2, hRw.rg⟩, (chgE hcw (by simp)).trans hc⟩
        rw [row_setCell_same, row_setCell_same, hB.row]; rfl
      have HFIN := Lib.hid hfin
      have HO1 := Lib.hid ho1
      have HO2 := Lib.hid ho2
      have HCW := Lib.hid hcw
      have HRW := Lib.hid hRw
      have HV0 := Lib.hid hv0
      have HV1 := Lib.hid hv1
      clear hall hR hRw hv0 hv1 hcw hB ho1 ho2 hnew hbw hfin hk hk2
      cases R with
      | nil =>
        have HRT := Lib.hid (rturn_none HRW.out)
        have hnil : ([] : List Nat).length = 0 := rfl
        by_cases hT : T = -1
        · have hgood : headT (rdy L (tau T k) k k) = T := by rw [← HRR.out, hT]; rfl
          have HG := Lib.hid hgood
          subst hT
          clear hgood
          go_wp2_with fail
          refine HRT.out.mono ?_
          rintro e w' ⟨rfl, rfl⟩
          go_wp2
          go_ret
          refine .inl ⟨HALL.out, HG.out, rfl, vr1, vg1, ?_, HO1.out, HO2.out, ?_⟩
          · rw [← HRR.out]; have := HFIN.out.1; rw [HV0.out, HV1.out] at this ⊢; exact this
          · have := HFIN.out.2; rw [HV0.out, HV1.out] at this; exact this
        · have hbad : ¬ ((∀ i, i < k → okSta (L i)) ∧ headT (rdy L (tau T k) k k) = T) := fun hh => hT (by rw [← hh.2, ← HRR.out]; rfl)
          have HG := Lib.hid hbad
          have e1 : ((-1 : Int) == T) = false := by simp; omega
          have e2 : ((-1 : Int) = T) = False := by simp; omega
          clear hbad hT
          go_wp2_with fail
          refine HRT.out.mono ?_
          rintro e w' ⟨rfl, rfl⟩
          go_wp2
          go_ret
          exact .inr ⟨HG.out, rfl, HCW.out⟩
      | cons t rest =>
        have HRT := Lib.hid (rturn_some HRW.out)
        by_cases hT : T = (t : Int)
        · have hgood : headT (rdy L (tau T k) k k) = T := by rw [← HRR.out, hT]; rfl
          have HG := Lib.hid hgood
          subst hT
          clear hgood
          go_wp2_with fail
          refine HRT.out.mono ?_
          rintro e w' ⟨rfl, rfl⟩
          go_wp2
          go_ret
          refine .inl ⟨HALL.out, HG.out, rfl, vr1, vg1, ?_, HO1.out, HO2.out, ?_⟩
          · rw [← HRR.out]; have := HFIN.out.1; rw [HV0.out, HV1.out] at this ⊢; exact this
          · have := HFIN.out.2; rw [HV0.out, HV1.out] at this; exact this
        · have hbad : ¬ ((∀ i, i < k → okSta (L i)) ∧ headT (rdy L (tau T k) k k) = T) := fun hh => hT (by rw [← hh.2, ← HRR.out]; rfl)
          have HG := Lib.hid hbad
          have e1 : ((t : Int) == T) = false := by simp; omega
          have e2 : ((t : Int) = T) = False := by simp; omega
          clear hbad hT
          go_wp2_with fail
          refine HRT.out.mono ?_
          rintro e w' ⟨rfl, rfl⟩
          go_wp2
          go_ret
          exact .inr ⟨HG.out, rfl, HCW.out⟩
end Go.Proofs.L
