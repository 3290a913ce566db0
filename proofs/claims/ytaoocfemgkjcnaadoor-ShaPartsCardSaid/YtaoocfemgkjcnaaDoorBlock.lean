/- Proved here: lemmas and contracts (Block) for the laws of this seat, for all values of the stated types; no further condition. -/
import Derived.Test.YtaoocfemgkjcnaaDoorBase
open Go Go.RowKit Go.Lib
namespace Go.Proofs.L
attribute [local irreducible] wpT
/-! the block: words of the schedule -/
def natL (k : IntKind) (L : List Nat) : List Value := L.map fun x : Nat => .int k (x : Int)
theorem natL_len (k : IntKind) (L : List Nat) : (natL k L).length = L.length := by simp [natL]
theorem natL_get (k : IntKind) (L : List Nat) (i : Nat) (h : i < L.length) : (natL k L).toArray[i]? = some (.int k ((L.getD i 0 : Nat) : Int)) := by
  simp [natL, h]
theorem natL_set (k : IntKind) (L : List Nat) (i x : Nat) : (natL k L).toArray.setIfInBounds i (.int k (x : Int)) = (natL k (L.set i x)).toArray := by
  simp only [natL, List.setIfInBounds_toArray, List.map_set]
def hashT (p : List Nat) (n : Nat) : List Value := natL .u8 p ++ [Value.int .u64 (n : Int)]
theorem hash_h (h p : List Nat) (n i : Nat) (hl : h.length = 8) (hi : i < 8) : (natL .u32 h ++ hashT p n).toArray[i]? = some (.int .u32 ((h.getD i 0 : Nat) : Int)) := by
  simp [natL, hl, hi, List.getElem?_append_left]
theorem hash_p (h p : List Nat) (n i : Nat) (hl : h.length = 8) (hp : p.length = 64) (hi : i < 64) : (natL .u32 h ++ hashT p n).toArray[8 + i]? = some (.int .u8 ((p.getD i 0 : Nat) : Int)) := by
  rw [List.getElem?_toArray, List.getElem?_append_right (by rw [natL_len]; omega), natL_len, hl, show 8 + i - 8 = i by omega]
  unfold hashT
  rw [List.getElem?_append_left (by rw [natL_len]; omega)]
  simp [natL, hp, hi]
structure Hs (w : World) (b : Nat) (h p : List Nat) (n : Nat) : Prop where
  row : w.row? b = some (natL .u32 h ++ hashT p n).toArray
  hl : h.length = 8
  pl : p.length = 64
  hb : ∀ x ∈ h, x < 4294967296
  pb : ∀ x ∈ p, x < 256
  nb : n < 18446744073709551616
theorem a42 : aggT Tryd.prog 42 64 := aggT_of (by kernel_rfl)
theorem a41 : aggT Tryd.prog 41 8 := aggT_of (by kernel_rfl)
theorem run_index_arr {P : Program} (w : World) {T e : TypeId} {n i : Nat} {kk k : IntKind} {cs : Array Value} {v : Value} (hT : P.underlying T = some (.array n e)) (he : P.underlying e = some (.int kk)) (hs : (P.info? e).map (·.size) = some 1) (hi : i < n) (hv : cs[i]? = some v) :
    (Instr.index T (.agg cs) (.int k (i : Int))).run P w = .ok v w := by
  have hagg : (isAgg e).run P w = .ok false w := by
    unfold isAgg; rw [Sem.run_bind, run_underlying he w]; rfl
  have hsz : (sizeOf e).run P w = .ok 1 w := by
    unfold sizeOf typeInfo
    cases hq : P.info? e with
    | none => simp [hq] at hs
    | some i => have : i.size = 1 := by simpa [hq] using hs
                simp [hq, this]
  have h2 : (0 : Int) ≤ (i : Int) ∧ (i : Int) < (n : Int) := by omega
  unfold Instr.index
  simp [asIntOf, Sem.run_bind, run_underlying hT, hsz, h2, part, hagg, hv]
  intro hh
  omega
theorem s5 : (Tryd.prog.info? 5).map (·.size) = some 1 := by kernel_rfl
theorem s40 : (Tryd.prog.info? 40).map (·.size) = some 1 := by kernel_rfl
def w1 (p : List Nat) : Nat → List Nat
  | 0 => List.replicate 64 0
  | k + 1 => (w1 p k).set (k / 4) (((w1 p k).getD (k / 4) 0 * 256 % 4294967296) ||| p.getD k 0)
theorem w1_len (p : List Nat) (k : Nat) : (w1 p k).length = 64 := by
  induction k with
  | zero => rfl
  | succ k ih => show (List.set _ _ _).length = 64; rw [List.length_set, ih]
theorem getD_lt {L : List Nat} {B : Nat} (h : ∀ x ∈ L, x < B) (h0 : 0 < B) (i : Nat) : L.getD i 0 < B := by
  rw [List.getD_eq_getElem?_getD]
  cases hg : L[i]? with
  | none => exact h0
  | some x => exact h x (List.mem_of_getElem? hg)
theorem set_lt {L : List Nat} {B : Nat} (h : ∀ x ∈ L, x < B) (i x : Nat) (hx : x < B) : ∀ y ∈ L.set i x, y < B := fun y hy => by
  rcases List.mem_or_eq_of_mem_set hy with h1 | h1
  · exact h y h1
  · rw [h1]; exact hx
theorem w1_lt (p : List Nat) (hp : ∀ x ∈ p, x < 256) (k : Nat) : ∀ x ∈ w1 p k, x < 4294967296 := by
  induction k with
  | zero => intro x hx; rw [List.eq_of_mem_replicate hx]; decide
  | succ k ih =>
    refine set_lt ih _ _ ?_
    have h1 : (w1 p k).getD (k / 4) 0 * 256 % 4294967296 < 2 ^ 32 := Nat.mod_lt _ (by decide)
    have h2 : p.getD k 0 < 2 ^ 32 := Nat.lt_trans (getD_lt hp (by decide) k) (by decide)
    exact Nat.or_lt_two_pow h1 h2
def sig0 (a : Nat) : Nat := rotl a 25 ^^^ rotl a 14 ^^^ (a / 8)
def sig1 (a : Nat) : Nat := rotl a 15 ^^^ rotl a 13 ^^^ (a / 1024)
def schedN (w16 w7 a b : Nat) : Nat := (((w16 + w7) % 4294967296 + sig0 a) % 4294967296 + sig1 b) % 4294967296
def w2 (W : List Nat) : Nat → List Nat
  | 0 => W
  | k + 1 => (w2 W k).set (16 + k) (schedN ((w2 W k).getD k 0) ((w2 W k).getD (k + 9) 0) ((w2 W k).getD (k + 1) 0) ((w2 W k).getD (k + 14) 0))
theorem w2_len (W : List Nat) (h : W.length = 64) (k : Nat) : (w2 W k).length = 64 := by
  induction k with
  | zero => exact h
  | succ k ih => show (List.set _ _ _).length = 64; rw [List.length_set, ih]
theorem w2_lt (W : List Nat) (h : ∀ x ∈ W, x < 4294967296) (k : Nat) : ∀ x ∈ w2 W k, x < 4294967296 := by
  induction k with
  | zero => exact h
  | succ k ih => exact set_lt ih _ _ (Nat.mod_lt _ (by decide))
theorem LaidOk.keep {E : List Nat} {w w' : World} (h : LaidOk w) (hc : Chg E w w') (h0 : 0 ∉ E) : LaidOk w' := fun i c hi => by
  have := h i c hi
  rw [World.cell?_of_block (w := w) (hc.block 0 (World.block_lt_of_cell? w _ this) h0)]; exact this
theorem chg_join {w V Y Z w' : World} {b b2 b9 : Nat} (h1 : Chg [] w V) (h2 : Chg [b2] V Y) (h3 : Chg [b9] Y Z) (h4 : Chg [b] Z w') (hb2 : w.heap.size ≤ b2) (hb9 : w.heap.size ≤ b9) : Chg [b] w w' :=
  ⟨h4.os.trans (h3.os.trans (h2.os.trans h1.os)), h4.tape.trans (h3.tape.trans (h2.tape.trans h1.tape)), h4.output.trans (h3.output.trans (h2.output.trans h1.output)),
    Nat.le_trans h1.size (Nat.le_trans h2.size (Nat.le_trans h3.size h4.size)),
    fun k hk hE => by
      have s1 := h1.size
      have s2 := h2.size
      have s3 := h3.size
      rw [h4.block k (by omega) hE, h3.block k (by omega) (by simp; omega), h2.block k (by omega) (by simp; omega), h1.block k hk (by simp)]⟩
theorem hash_set (h p : List Nat) (n i x : Nat) (hl : h.length = 8) (hi : i < 8) : (natL .u32 h ++ hashT p n).toArray.setIfInBounds i (.int .u32 (x : Int)) = (natL .u32 (h.set i x) ++ hashT p n).toArray := by
  simp only [natL, List.setIfInBounds_toArray]
  rw [List.set_append_left _ _ (by simp; omega), List.map_set]
structure V8 where
  (v0 v1 v2 v3 v4 v5 v6 v7 : Nat)
def V8.L (v : V8) : List Nat := [v.v0, v.v1, v.v2, v.v3, v.v4, v.v5, v.v6, v.v7]
def tN (v4 v5 v6 v7 ad wk : Nat) : Nat := ((((v7 + (rotl v4 26 ^^^ rotl v4 21 ^^^ rotl v4 7)) % 4294967296 + (v6 ^^^ (v4 &&& (v5 ^^^ v6)))) % 4294967296 + ad) % 4294967296 + wk) % 4294967296
def uN (v0 v1 v2 : Nat) : Nat := ((rotl v0 30 ^^^ rotl v0 19 ^^^ rotl v0 10) + ((v0 &&& v1) ||| (v2 &&& (v0 ||| v1)))) % 4294967296
def roundN (v : V8) (ad wk : Nat) : V8 :=
  ⟨(tN v.v4 v.v5 v.v6 v.v7 ad wk + uN v.v0 v.v1 v.v2) % 4294967296, v.v0, v.v1, v.v2, (v.v3 + tN v.v4 v.v5 v.v6 v.v7 ad wk) % 4294967296, v.v4, v.v5, v.v6⟩
def vsN (v : V8) (W : List Nat) : Nat → V8
  | 0 => v
  | k + 1 => roundN (vsN v W k) (addsL.getD k 0) (W.getD k 0)
def V8.ok (v : V8) : Prop := v.v0 < 4294967296 ∧ v.v1 < 4294967296 ∧ v.v2 < 4294967296 ∧ v.v3 < 4294967296 ∧ v.v4 < 4294967296 ∧ v.v5 < 4294967296 ∧ v.v6 < 4294967296 ∧ v.v7 < 4294967296
theorem vs_ok (v : V8) (W : List Nat) (h : v.ok) (k : Nat) : (vsN v W k).ok := by
  induction k with
  | zero => exact h
  | succ k ih =>
    obtain ⟨h0, h1, h2, h3, h4, h5, h6, h7⟩ := ih
    exact ⟨Nat.mod_lt _ (by decide), h0, h1, h2, Nat.mod_lt _ (by decide), h4, h5, h6⟩
def v8of (h : List Nat) : V8 := ⟨h.getD 0 0, h.getD 1 0, h.getD 2 0, h.getD 3 0, h.getD 4 0, h.getD 5 0, h.getD 6 0, h.getD 7 0⟩
def addH (h : List Nat) (v : List Nat) : Nat → List Nat
  | 0 => h
  | k + 1 => (addH h v k).set k (((addH h v k).getD k 0 + v.getD k 0) % 4294967296)
def blockN (h p : List Nat) : List Nat := addH h (vsN (v8of h) (w2 (w1 p 64) 48) 64).L 8
theorem addH_len (h v : List Nat) (hl : h.length = 8) (k : Nat) : (addH h v k).length = 8 := by
  induction k with
  | zero => exact hl
  | succ k ih => show (List.set _ _ _).length = 8; rw [List.length_set, ih]
theorem addH_lt (h v : List Nat) (hb : ∀ x ∈ h, x < 4294967296) (k : Nat) : ∀ x ∈ addH h v k, x < 4294967296 := by
  induction k with
  | zero => exact hb
  | succ k ih => exact set_lt ih _ _ (Nat.mod_lt _ (by decide))
theorem v8L_lt (v : V8) (h : v.ok) : ∀ x ∈ v.L, x < 4294967296 := by
  obtain ⟨h0, h1, h2, h3, h4, h5, h6, h7⟩ := h
  intro x hx
  simp only [V8.L, List.mem_cons, List.not_mem_nil, or_false] at hx
  rcases hx with rfl | rfl | rfl | rfl | rfl | rfl | rfl | rfl <;> assumption
theorem adds_lt : ∀ x ∈ addsL, x < 4294967296 := by decide
theorem v8_list (h : List Nat) (hl : h.length = 8) : h = (v8of h).L := by
  match h, hl with
  | [a, b, c, d, e, f, g, i], _ => rfl
set_option maxRecDepth 100000 in
set_option maxHeartbeats 3200000 in
theorem block_any {w : World} {b : Nat} {h p : List Nat} {n : Nat} (hH : Hs w b h p n) (hL : LaidOk w) (hb0 : b ≠ 0) :
    Calls Tryd.prog 14 #[.pointer (some ⟨b, 0, none⟩)] w fun e w' => e = .returned (.tuple #[]) ∧ Hs w' b (blockN h p) p n ∧ Chg [b] w w' := by
  obtain ⟨b2, hb2⟩ : ∃ B, B = w.heap.size := ⟨_, rfl⟩
  obtain ⟨V, hV⟩ : ∃ V, V = w.alloc (.cells (natL .u32 (List.replicate 64 0)).toArray 46) := ⟨_, rfl⟩
  have hbw := row_lt hH.row
  have hCV : Chg [] w V := by rw [hV]; exact (Chg.refl _ _).alloc _
  have rV : V.row? b = some (natL .u32 h ++ hashT p n).toArray := by rw [hCV.row hbw (by simp)]; exact hH.row
  have r2 : V.row? b2 = some (natL .u32 (w1 p 0)).toArray := by rw [hV]; exact row_alloc_at _ _ _ _ hb2
  have hne : b ≠ b2 := by omega
  have HB0 := Lib.hid hb0
  have HH := Lib.hid hH
  have HL := Lib.hid (hL)
  have HCV := Lib.hid hCV
  have HRV := Lib.hid rV
  have HR2 := Lib.hid r2
  have HB2 := Lib.hid hb2
  have HV : Hid (V = w.alloc (.cells #[.int .u32 0, .int .u32 0, .int .u32 0, .int .u32 0, .int .u32 0, .int .u32 0, .int .u32 0, .int .u32 0, .int .u32 0, .int .u32 0, .int .u32 0, .int .u32 0, .int .u32 0, .int .u32 0, .int .u32 0, .int .u32 0, .int .u32 0, .int .u32 0, .int .u32 0, .int .u32 0, .int .u32 0, .int .u32 0, .int .u32 0, .int .u32 0, .int .u32 0, .int .u32 0, .int .u32 0, .int .u32 0, .int .u32 0, .int .u32 0, .int .u32 0, .int .u32 0, .int .u32 0, .int .u32 0, .int .u32 0, .int .u32 0, .int .u32 0, .int .u32 0, .int .u32 0, .int .u32 0, .int .u32 0, .int .u32 0, .int .u32 0, .int .u32 0, .int .u32 0, .int .u32 0, .int .u32 0, .int .u32 0, .int .u32 0, .int .u32 0, .int .u32 0, .int .u32 0, .int .u32 0, .int .u32 0, .int .u32 0, .int .u32 0, .int .u32 0, .int .u32 0, .int .u32 0, .int .u32 0, .int .u32 0, .int .u32 0, .int .u32 0, .int .u32 0] 46)) := Lib.hid (by rw [hV]; rfl)
  have HNE := Lib.hid hne
  clear hb0 hH hL hCV rV r2 hb2 hV hne hbw
  go_enter Tryd.func14, Tryd.ntmps14
  go_upto_region 1 with (fail)
  rw [← HB2.out, ← HV.out]
  clear HV
  go_wp2_with (refine wpList_load_part a42 (natL .u8 p) rfl _ rfl rfl (by rw [natL_len]; exact HH.out.pl) (fun j u hu => by
    have hj : j < 64 := by
      have := (List.getElem?_eq_some_iff.1 hu).1
      rw [natL_len, HH.out.pl] at this; exact this
    rw [row_cell HRV.out, hash_p h p n j HH.out.hl HH.out.pl hj, ← hu]
    simp [natL, HH.out.pl, hj]) ?_)
  go_loopw [22, 3, 4] (fun i _ _ wr => ∃ k : Nat, k ≤ 64 ∧ i = .int .i64 k ∧ wr.row? b2 = some (natL .u32 (w1 p k)).toArray ∧ Chg [b2] V wr) (fun i _ _ _ => 64 - (intOf i).toNat)
  case atStart => exact ⟨0, by omega, rfl, HR2.out, Chg.refl _ _⟩
  case round =>
    obtain ⟨k, hk, rfl, hr, hch⟩ := hrel
    have HR := Lib.hid hr
    have HC := Lib.hid hch
    clear hr hch
    by_cases hk2 : k < 64
    · have HK := Lib.hid hk2
      have HW : Hid (wrap64 ((k : Int) + 1) = ((k + 1 : Nat) : Int)) := Lib.hid (by rw [IntWalk.wrap64_in _ ⟨by omega, by omega⟩]; omega)
      obtain ⟨q, hq⟩ : ∃ q, q = k / 4 := ⟨_, rfl⟩
      have eq1 : (k : Int).tdiv 4 = (q : Int) := by rw [Int.tdiv_eq_ediv_of_nonneg (by omega), hq]; rfl
      have hq16 : q < 64 := by omega
      obtain ⟨x, hx⟩ : ∃ x, x = (w1 p k).getD q 0 := ⟨_, rfl⟩
      obtain ⟨c, hc⟩ : ∃ c, c = p.getD k 0 := ⟨_, rfl⟩
      have cx : wr.cell? ⟨b2, q, none⟩ = some (.int .u32 (x : Int)) := by rw [row_cell HR.out, natL_get _ _ _ (by rw [w1_len]; exact hq16), hx]
      have fx : wr.frozen? ⟨b2, q, none⟩ = false := row_free HR.out _
      have cp : (natL .u8 p).toArray[k]? = some (.int .u8 (c : Int)) := by rw [natL_get _ _ _ (by rw [HH.out.pl]; exact hk2), hc]
      have hxl : x < 4294967296 := by rw [hx]; exact getD_lt (w1_lt p HH.out.pb k) (by decide) q
      have hcl : c < 256 := by rw [hc]; exact getD_lt HH.out.pb (by decide) k
      obtain ⟨y, hy⟩ : ∃ y, y = x * 256 % 4294967296 := ⟨_, rfl⟩
      have e1 : (x : Int) * 256 % 4294967296 = (y : Int) := by omega
      have e2 : IntKind.u32.wrap (c : Int) = (c : Int) := by rw [u32w]; omega
      have e3 := (bit_u32 y c (by omega) (by omega)).1
      obtain ⟨z, hz⟩ : ∃ z, z = y ||| c := ⟨_, rfl⟩
      rw [← hz] at e3
      have HNX : Hid (w1 p (k + 1) = (w1 p k).set q z) := Lib.hid (by rw [hz, hy, hx, hc, hq]; rfl)
      have dk : decide ((k : Int) < 64) = true := by rw [decide_eq_true_eq]; omega
      have hkI : (k : Int) < 64 := by omega
      have ei : ∀ w, Sem.run Tryd.prog (Instr.index 42 (.agg (natL .u8 p).toArray) (.int .i64 (k : Int))) w = .ok (.int .u8 (c : Int)) w := fun w => run_index_arr w Tryd.underlying42 Tryd.underlying5 s5 hk2 cp
      clear hq hx hc hy hz hk2 cp
      go_wp2
      case roundEnd =>
        refine ⟨⟨k + 1, HK.out, rfl, ?_, HC.out.setCell (.inl (by simp)) _⟩, by simp only [intOf]; have := HK.out; omega⟩
        rw [row_setCell_same, HR.out, HNX.out]
        show some ((natL .u32 (w1 p k)).toArray.setIfInBounds q (.int .u32 (z : Int))) = _
        rw [natL_set]
    · have hk64 : k = 64 := by omega
      have dk1 : decide ((k : Int) < 64) = false := by rw [decide_eq_false_iff_not]; omega
      have HR0 := HR.out
      rw [hk64] at HR0
      have HR := Lib.hid HR0
      clear HR0 hk64
      have HWL := Lib.hid (w1_lt p HH.out.pb 64)
      have HWN := Lib.hid (w1_len p 64)
      obtain ⟨W0, hW0⟩ : ∃ W, W = w1 p 64 := ⟨_, rfl⟩
      rw [← hW0] at HWL HWN HR
      have HW0 := Lib.hid hW0
      clear hW0
      go_wp2_with fail
      go_loopw [6, 7, 8] (fun i _ _ wr => ∃ k T : Nat, T = 16 + k ∧ k ≤ 48 ∧ i = .int .i64 T ∧ wr.row? b2 = some (natL .u32 (w2 W0 k)).toArray ∧ Chg [b2] V wr) (fun i _ _ _ => 64 - (intOf i).toNat)
      case atStart => exact ⟨0, 16, rfl, by omega, rfl, HR.out, HC.out⟩
      case round =>
        obtain ⟨k, T, hT, hk, rfl, hr, hch⟩ := hrel
        have HR := Lib.hid hr
        have HC := Lib.hid hch
        clear hr hch
        by_cases hk2 : T < 64
        · have HK := Lib.hid hk2
          have HT := Lib.hid hT
          obtain ⟨k1, hk1⟩ : ∃ x, x = k + 1 := ⟨_, rfl⟩
          obtain ⟨k9, hk9⟩ : ∃ x, x = k + 9 := ⟨_, rfl⟩
          obtain ⟨k14, hk14⟩ : ∃ x, x = k + 14 := ⟨_, rfl⟩
          have a15 : IntKind.i64.wrap ((T : Int) - 15) = (k1 : Int) := by rw [IntKind.wrap_i64]; omega
          have a2 : IntKind.i64.wrap ((T : Int) - 2) = (k14 : Int) := by rw [IntKind.wrap_i64]; omega
          have a16 : IntKind.i64.wrap ((T : Int) - 16) = (k : Int) := by rw [IntKind.wrap_i64]; omega
          have a7 : IntKind.i64.wrap ((T : Int) - 7) = (k9 : Int) := by rw [IntKind.wrap_i64]; omega
          have l0 : k < 64 := by omega
          have l1 : k1 < 64 := by omega
          have l9 : k9 < 64 := by omega
          have l14 : k14 < 64 := by omega
          have L0 : (k : Int) < 64 := by omega
          have L1 : (k1 : Int) < 64 := by omega
          have L9 : (k9 : Int) < 64 := by omega
          have L14 : (k14 : Int) < 64 := by omega
          have hlen : (w2 W0 k).length = 64 := w2_len W0 HWN.out k
          have hlt := w2_lt W0 HWL.out k
          obtain ⟨x0, hx0⟩ : ∃ x, x = (w2 W0 k).getD k 0 := ⟨_, rfl⟩
          obtain ⟨x1, hx1⟩ : ∃ x, x = (w2 W0 k).getD k1 0 := ⟨_, rfl⟩
          obtain ⟨x9, hx9⟩ : ∃ x, x = (w2 W0 k).getD k9 0 := ⟨_, rfl⟩
          obtain ⟨x14, hx14⟩ : ∃ x, x = (w2 W0 k).getD k14 0 := ⟨_, rfl⟩
          have m0 : x0 < 4294967296 := by rw [hx0]; exact getD_lt hlt (by decide) k
          have m1 : x1 < 4294967296 := by rw [hx1]; exact getD_lt hlt (by decide) k1
          have m9 : x9 < 4294967296 := by rw [hx9]; exact getD_lt hlt (by decide) k9
          have m14 : x14 < 4294967296 := by rw [hx14]; exact getD_lt hlt (by decide) k14
          have c0 : wr.cell? ⟨b2, k, none⟩ = some (.int .u32 (x0 : Int)) := by rw [row_cell HR.out, natL_get _ _ _ (by omega), hx0]
          have c1 : wr.cell? ⟨b2, k1, none⟩ = some (.int .u32 (x1 : Int)) := by rw [row_cell HR.out, natL_get _ _ _ (by omega), hx1]
          have c9 : wr.cell? ⟨b2, k9, none⟩ = some (.int .u32 (x9 : Int)) := by rw [row_cell HR.out, natL_get _ _ _ (by omega), hx9]
          have c14 : wr.cell? ⟨b2, k14, none⟩ = some (.int .u32 (x14 : Int)) := by rw [row_cell HR.out, natL_get _ _ _ (by omega), hx14]
          have fT : wr.frozen? ⟨b2, T, none⟩ = false := row_free HR.out _
          have cT : wr.cell? ⟨b2, T, none⟩ = some (.int .u32 (((w2 W0 k).getD T 0 : Nat) : Int)) := by rw [row_cell HR.out, natL_get _ _ _ (by omega)]
          obtain ⟨yT, hyT⟩ : ∃ y, y = (w2 W0 k).getD T 0 := ⟨_, rfl⟩
          rw [← hyT] at cT
          -- what is reckoned
          have R1 := Lib.hid (fun w => rot_any x1 25 (-7) m1 (by decide) (by decide) w)
          have R2 := Lib.hid (fun w => rot_any x1 14 (-18) m1 (by decide) (by decide) w)
          have R3 := Lib.hid (fun w => rot_any x14 15 (-17) m14 (by decide) (by decide) w)
          have R4 := Lib.hid (fun w => rot_any x14 13 (-19) m14 (by decide) (by decide) w)
          have B1 := (bit_u32 (rotl x1 25) (rotl x1 14) (rotl_lt _ _ m1) (rotl_lt _ _ m1)).2.1
          have B2 := (bit_u32 (rotl x1 25 ^^^ rotl x1 14) (x1 / 8) (Nat.xor_lt_two_pow (n := 32) (rotl_lt _ _ m1) (rotl_lt _ _ m1)) (by omega)).2.1
          have B3 := (bit_u32 (rotl x14 15) (rotl x14 13) (rotl_lt _ _ m14) (rotl_lt _ _ m14)).2.1
          have B4 := (bit_u32 (rotl x14 15 ^^^ rotl x14 13) (x14 / 1024) (Nat.xor_lt_two_pow (n := 32) (rotl_lt _ _ m14) (rotl_lt _ _ m14)) (by omega)).2.1
          have D1 : (x1 : Int) / 8 = ((x1 / 8 : Nat) : Int) := by omega
          have D2 : (x14 : Int) / 1024 = ((x14 / 1024 : Nat) : Int) := by omega
          have HNX : Hid (w2 W0 (k + 1) = (w2 W0 k).set T (schedN x0 x9 x1 x14)) := Lib.hid (by rw [hx0, hx9, hx1, hx14, hk1, hk9, hk14, hT]; rfl)
          unfold schedN sig0 sig1 at HNX
          obtain ⟨r1, hr1⟩ : ∃ x, x = rotl x1 25 := ⟨_, rfl⟩
          obtain ⟨r2, hr2⟩ : ∃ x, x = rotl x1 14 := ⟨_, rfl⟩
          obtain ⟨r3, hr3⟩ : ∃ x, x = rotl x14 15 := ⟨_, rfl⟩
          obtain ⟨r4, hr4⟩ : ∃ x, x = rotl x14 13 := ⟨_, rfl⟩
          rw [← hr1] at R1 B1 B2 HNX
          rw [← hr2] at R2 B1 B2 HNX
          rw [← hr3] at R3 B3 B4 HNX
          rw [← hr4] at R4 B3 B4 HNX
          obtain ⟨d1, hd1⟩ : ∃ x, x = x1 / 8 := ⟨_, rfl⟩
          obtain ⟨d2, hd2⟩ : ∃ x, x = x14 / 1024 := ⟨_, rfl⟩
          rw [← hd1] at B2 D1 HNX
          rw [← hd2] at B4 D2 HNX
          obtain ⟨y1, hy1⟩ : ∃ x, x = r1 ^^^ r2 := ⟨_, rfl⟩
          rw [← hy1] at B1 B2 HNX
          obtain ⟨y2, hy2⟩ : ∃ x, x = y1 ^^^ d1 := ⟨_, rfl⟩
          rw [← hy2] at B2 HNX
          obtain ⟨y3, hy3⟩ : ∃ x, x = r3 ^^^ r4 := ⟨_, rfl⟩
          rw [← hy3] at B3 B4 HNX
          obtain ⟨y4, hy4⟩ : ∃ x, x = y3 ^^^ d2 := ⟨_, rfl⟩
          rw [← hy4] at B4 HNX
          obtain ⟨z1, hz1⟩ : ∃ x, x = (x0 + x9) % 4294967296 := ⟨_, rfl⟩
          rw [← hz1] at HNX
          obtain ⟨z2, hz2⟩ : ∃ x, x = (z1 + y2) % 4294967296 := ⟨_, rfl⟩
          rw [← hz2] at HNX
          obtain ⟨z3, hz3⟩ : ∃ x, x = (z2 + y4) % 4294967296 := ⟨_, rfl⟩
          rw [← hz3] at HNX
          have A1 : IntKind.u32.wrap ((x0 : Int) + (x9 : Int)) = (z1 : Int) := by rw [u32w]; omega
          have A2 : IntKind.u32.wrap ((z1 : Int) + (y2 : Int)) = (z2 : Int) := by rw [u32w]; omega
          have A3 : IntKind.u32.wrap ((z2 : Int) + (y4 : Int)) = (z3 : Int) := by rw [u32w]; omega
          have HW : Hid (wrap64 ((T : Int) + 1) = ((T + 1 : Nat) : Int)) := Lib.hid (by rw [IntWalk.wrap64_in _ ⟨by omega, by omega⟩]; omega)
          have dk : decide ((T : Int) < 64) = true := by rw [decide_eq_true_eq]; omega
          have hkI : (T : Int) < 64 := by omega
          clear hT hk1 hk9 hk14 hlen hlt hx0 hx1 hx9 hx14 hyT m0 m1 m9 m14 hr1 hr2 hr3 hr4 hd1 hd2 hy1 hy2 hy3 hy4 hz1 hz2 hz3
          go_upto_region 10 with (fail)
          refine wp_region_C (fun w' => w'.cell? ⟨b2, k1, none⟩ = some (.int .u32 (x1 : Int)) ∧ w'.cell? ⟨b2, k14, none⟩ = some (.int .u32 (x14 : Int))) [(0, 0), (1, 0), (2, 0), (3, 1), (4, 0), (5, 0), (6, 0), (7, 1), (8, 0), (9, 0)] rfl (by kernel_rfl) ?hSA ?hTA
          case hSA => exact ⟨c1, c14⟩
          refine wpT_pureD (v := ?_) (some 42) rfl rfl (by rfl) (fun w' => ?_) ?_
          rotate_left
          · (go_simp; try with_reducible rfl)
          try simp only [Act.put, List.setIfInBounds_toArray, List.set_cons_zero, List.set_cons_succ]
          refine wpT_pureD (v := ?_) (some 43) rfl rfl (by rfl) (fun w' => ?_) ?_
          rotate_left
          · (go_simp; try with_reducible rfl)
          try simp only [Act.put, List.setIfInBounds_toArray, List.set_cons_zero, List.set_cons_succ]
          refine wpT_pureD (v := ?_) (some 44) rfl rfl (by rfl) (fun w' => ?_) ?_
          rotate_left
          · (go_simp; try with_reducible rfl)
          try simp only [Act.put, List.setIfInBounds_toArray, List.set_cons_zero, List.set_cons_succ]
          refine wpT_readD (v := ?_) (some 45) rfl rfl (by rfl) (fun w' hw => ?_) ?_
          rotate_left
          · (obtain ⟨q0, q1⟩ := hw; go_simp; try with_reducible rfl)
          try simp only [Act.put, List.setIfInBounds_toArray, List.set_cons_zero, List.set_cons_succ]
          refine wpT_pureD (v := ?_) (some 46) rfl rfl (by rfl) (fun w' => ?_) ?_
          rotate_left
          · (go_simp; try with_reducible rfl)
          try simp only [Act.put, List.setIfInBounds_toArray, List.set_cons_zero, List.set_cons_succ]
          refine wpT_pureD (v := ?_) (some 47) rfl rfl (by rfl) (fun w' => ?_) ?_
          rotate_left
          · (go_simp; try with_reducible rfl)
          try simp only [Act.put, List.setIfInBounds_toArray, List.set_cons_zero, List.set_cons_succ]
          refine wpT_pureD (v := ?_) (some 48) rfl rfl (by rfl) (fun w' => ?_) ?_
          rotate_left
          · (go_simp; try with_reducible rfl)
          try simp only [Act.put, List.setIfInBounds_toArray, List.set_cons_zero, List.set_cons_succ]
          refine wpT_readD (v := ?_) (some 49) rfl rfl (by rfl) (fun w' hw => ?_) ?_
          rotate_left
          · (obtain ⟨q0, q1⟩ := hw; go_simp; try with_reducible rfl)
          try simp only [Act.put, List.setIfInBounds_toArray, List.set_cons_zero, List.set_cons_succ]
          refine wpT_pureD (v := ?_) (some 7) rfl rfl (by rfl) (fun w' => ?_) ?_
          rotate_left
          · (go_simp; try with_reducible rfl)
          try simp only [Act.put, List.setIfInBounds_toArray, List.set_cons_zero, List.set_cons_succ]
          refine wpT_pureD (v := ?_) (some 8) rfl rfl (by rfl) (fun w' => ?_) ?_
          rotate_left
          · (go_simp; try with_reducible rfl)
          try simp only [Act.put, List.setIfInBounds_toArray, List.set_cons_zero, List.set_cons_succ]
          refine wpT_end ?_
          go_upto_region 11 with (fail)
          refine wp_region_C (fun w' => w'.cell? ⟨b2, k, none⟩ = some (.int .u32 (x0 : Int)) ∧ w'.cell? ⟨b2, k9, none⟩ = some (.int .u32 (x9 : Int))) [(0, 0), (1, 0), (2, 0), (3, 0), (4, 1), (5, 0), (6, 0), (7, 0), (8, 1), (9, 0), (10, 0), (11, 0), (12, 0), (13, 0), (14, 0), (15, 0), (16, 0), (17, 0), (18, 0), (19, 0), (20, 0), (21, 0), (22, 0), (23, 0), (24, 0), (25, 0), (26, 0), (27, 0), (28, 0), (29, 0), (30, 0), (31, 0), (32, 0), (33, 3)] rfl (by kernel_rfl) ?hSB ?hTB
          case hSB => exact ⟨c0, c9⟩
          refine wpT_pureD (v := ?_) (some 50) rfl rfl (by rfl) (fun w' => ?_) ?_
          rotate_left
          · (go_simp; try with_reducible rfl)
          try simp only [Act.put, List.setIfInBounds_toArray, List.set_cons_zero, List.set_cons_succ]
          refine wpT_pureD (v := ?_) (some 51) rfl rfl (by rfl) (fun w' => ?_) ?_
          rotate_left
          · (go_simp; try with_reducible rfl)
          try simp only [Act.put, List.setIfInBounds_toArray, List.set_cons_zero, List.set_cons_succ]
          refine wpT_pureD (v := ?_) (some 52) rfl rfl (by rfl) (fun w' => ?_) ?_
          rotate_left
          · (go_simp; try with_reducible rfl)
          try simp only [Act.put, List.setIfInBounds_toArray, List.set_cons_zero, List.set_cons_succ]
          refine wpT_pureD (v := ?_) (some 53) rfl rfl (by rfl) (fun w' => ?_) ?_
          rotate_left
          · (go_simp; try with_reducible rfl)
          try simp only [Act.put, List.setIfInBounds_toArray, List.set_cons_zero, List.set_cons_succ]
          refine wpT_readD (v := ?_) (some 54) rfl rfl (by rfl) (fun w' hw => ?_) ?_
          rotate_left
          · (obtain ⟨q0, q1⟩ := hw; go_simp; try with_reducible rfl)
          try simp only [Act.put, List.setIfInBounds_toArray, List.set_cons_zero, List.set_cons_succ]
          refine wpT_pureD (v := ?_) (some 55) rfl rfl (by rfl) (fun w' => ?_) ?_
          rotate_left
          · (go_simp; try with_reducible rfl)
          try simp only [Act.put, List.setIfInBounds_toArray, List.set_cons_zero, List.set_cons_succ]
          refine wpT_pureD (v := ?_) (some 56) rfl rfl (by rfl) (fun w' => ?_) ?_
          rotate_left
          · (go_simp; try with_reducible rfl)
          try simp only [Act.put, List.setIfInBounds_toArray, List.set_cons_zero, List.set_cons_succ]
          refine wpT_pureD (v := ?_) (some 57) rfl rfl (by rfl) (fun w' => ?_) ?_
          rotate_left
          · (go_simp; try with_reducible rfl)
          try simp only [Act.put, List.setIfInBounds_toArray, List.set_cons_zero, List.set_cons_succ]
          refine wpT_readD (v := ?_) (some 58) rfl rfl (by rfl) (fun w' hw => ?_) ?_
          rotate_left
          · (obtain ⟨q0, q1⟩ := hw; go_simp; try with_reducible rfl)
          try simp only [Act.put, List.setIfInBounds_toArray, List.set_cons_zero, List.set_cons_succ]
          refine wpT_pureD (v := ?_) (some 59) rfl rfl (by rfl) (fun w' => ?_) ?_
          rotate_left
          · (go_simp; try with_reducible rfl)
          try simp only [Act.put, List.setIfInBounds_toArray, List.set_cons_zero, List.set_cons_succ]
          refine wpT_pureD (v := ?_) (some 60) rfl rfl (by rfl) (fun w' => ?_) ?_
          rotate_left
          · (go_simp; try with_reducible rfl)
          try simp only [Act.put, List.setIfInBounds_toArray, List.set_cons_zero, List.set_cons_succ]
          refine wpT_pureD (v := ?_) (some 61) rfl rfl (by rfl) (fun w' => ?_) ?_
          rotate_left
          · (go_simp; try with_reducible rfl)
          try simp only [Act.put, List.setIfInBounds_toArray, List.set_cons_zero, List.set_cons_succ]
          refine wpT_call (d := some 62) (f := 16) (args := #[.int .u32 (x1 : Int), .int .i64 (-7)]) (v := .int .u32 (r1 : Int)) rfl rfl (by rfl) (fun w' => by first | rfl | (go_simp; done) | (go_simp; rfl)) (fun w' => R1.out w') ?_
          try simp only [Act.put, List.setIfInBounds_toArray, List.set_cons_zero, List.set_cons_succ]
          try simp only [Act.put, List.setIfInBounds_toArray, List.set_cons_zero, List.set_cons_succ]
          refine wpT_pureD (v := ?_) (some 63) rfl rfl (by rfl) (fun w' => ?_) ?_
          rotate_left
          · (go_simp; try with_reducible rfl)
          try simp only [Act.put, List.setIfInBounds_toArray, List.set_cons_zero, List.set_cons_succ]
          refine wpT_pureD (v := ?_) (some 64) rfl rfl (by rfl) (fun w' => ?_) ?_
          rotate_left
          · (go_simp; try with_reducible rfl)
          try simp only [Act.put, List.setIfInBounds_toArray, List.set_cons_zero, List.set_cons_succ]
          refine wpT_call (d := some 65) (f := 16) (args := #[.int .u32 (x1 : Int), .int .i64 (-18)]) (v := .int .u32 (r2 : Int)) rfl rfl (by rfl) (fun w' => by first | rfl | (go_simp; done) | (go_simp; rfl)) (fun w' => R2.out w') ?_
          try simp only [Act.put, List.setIfInBounds_toArray, List.set_cons_zero, List.set_cons_succ]
          try simp only [Act.put, List.setIfInBounds_toArray, List.set_cons_zero, List.set_cons_succ]
          refine wpT_pureD (v := ?_) (some 66) rfl rfl (by rfl) (fun w' => ?_) ?_
          rotate_left
          · (go_simp; try with_reducible rfl)
          try simp only [Act.put, List.setIfInBounds_toArray, List.set_cons_zero, List.set_cons_succ]
          refine wpT_pureD (v := ?_) (some 67) rfl rfl (by rfl) (fun w' => ?_) ?_
          rotate_left
          · (go_simp; try with_reducible rfl)
          try simp only [Act.put, List.setIfInBounds_toArray, List.set_cons_zero, List.set_cons_succ]
          refine wpT_pureD (v := ?_) (some 68) rfl rfl (by rfl) (fun w' => ?_) ?_
          rotate_left
          · (go_simp; try with_reducible rfl)
          try simp only [Act.put, List.setIfInBounds_toArray, List.set_cons_zero, List.set_cons_succ]
          refine wpT_pureD (v := ?_) (some 69) rfl rfl (by rfl) (fun w' => ?_) ?_
          rotate_left
          · (go_simp; try with_reducible rfl)
          try simp only [Act.put, List.setIfInBounds_toArray, List.set_cons_zero, List.set_cons_succ]
          refine wpT_pureD (v := ?_) (some 70) rfl rfl (by rfl) (fun w' => ?_) ?_
          rotate_left
          · (go_simp; try with_reducible rfl)
          try simp only [Act.put, List.setIfInBounds_toArray, List.set_cons_zero, List.set_cons_succ]
          refine wpT_pureD (v := ?_) (some 71) rfl rfl (by rfl) (fun w' => ?_) ?_
          rotate_left
          · (go_simp; try with_reducible rfl)
          try simp only [Act.put, List.setIfInBounds_toArray, List.set_cons_zero, List.set_cons_succ]
          refine wpT_pureD (v := ?_) (some 72) rfl rfl (by rfl) (fun w' => ?_) ?_
          rotate_left
          · (go_simp; try with_reducible rfl)
          try simp only [Act.put, List.setIfInBounds_toArray, List.set_cons_zero, List.set_cons_succ]
          refine wpT_call (d := some 73) (f := 16) (args := #[.int .u32 (x14 : Int), .int .i64 (-17)]) (v := .int .u32 (r3 : Int)) rfl rfl (by rfl) (fun w' => by first | rfl | (go_simp; done) | (go_simp; rfl)) (fun w' => R3.out w') ?_
          try simp only [Act.put, List.setIfInBounds_toArray, List.set_cons_zero, List.set_cons_succ]
          try simp only [Act.put, List.setIfInBounds_toArray, List.set_cons_zero, List.set_cons_succ]
          refine wpT_pureD (v := ?_) (some 74) rfl rfl (by rfl) (fun w' => ?_) ?_
          rotate_left
          · (go_simp; try with_reducible rfl)
          try simp only [Act.put, List.setIfInBounds_toArray, List.set_cons_zero, List.set_cons_succ]
          refine wpT_pureD (v := ?_) (some 75) rfl rfl (by rfl) (fun w' => ?_) ?_
          rotate_left
          · (go_simp; try with_reducible rfl)
          try simp only [Act.put, List.setIfInBounds_toArray, List.set_cons_zero, List.set_cons_succ]
          refine wpT_call (d := some 76) (f := 16) (args := #[.int .u32 (x14 : Int), .int .i64 (-19)]) (v := .int .u32 (r4 : Int)) rfl rfl (by rfl) (fun w' => by first | rfl | (go_simp; done) | (go_simp; rfl)) (fun w' => R4.out w') ?_
          try simp only [Act.put, List.setIfInBounds_toArray, List.set_cons_zero, List.set_cons_succ]
          try simp only [Act.put, List.setIfInBounds_toArray, List.set_cons_zero, List.set_cons_succ]
          refine wpT_pureD (v := ?_) (some 77) rfl rfl (by rfl) (fun w' => ?_) ?_
          rotate_left
          · (go_simp; try with_reducible rfl)
          try simp only [Act.put, List.setIfInBounds_toArray, List.set_cons_zero, List.set_cons_succ]
          refine wpT_pureD (v := ?_) (some 78) rfl rfl (by rfl) (fun w' => ?_) ?_
          rotate_left
          · (go_simp; try with_reducible rfl)
          try simp only [Act.put, List.setIfInBounds_toArray, List.set_cons_zero, List.set_cons_succ]
          refine wpT_pureD (v := ?_) (some 79) rfl rfl (by rfl) (fun w' => ?_) ?_
          rotate_left
          · (go_simp; try with_reducible rfl)
          try simp only [Act.put, List.setIfInBounds_toArray, List.set_cons_zero, List.set_cons_succ]
          refine wpT_pureD (v := ?_) (some 80) rfl rfl (by rfl) (fun w' => ?_) ?_
          rotate_left
          · (go_simp; try with_reducible rfl)
          try simp only [Act.put, List.setIfInBounds_toArray, List.set_cons_zero, List.set_cons_succ]
          refine wpT_pureD (v := ?_) (some 81) rfl rfl (by rfl) (fun w' => ?_) ?_
          rotate_left
          · (go_simp; try with_reducible rfl)
          try simp only [Act.put, List.setIfInBounds_toArray, List.set_cons_zero, List.set_cons_succ]
          refine wpT_pureD (v := ?_) (some 82) rfl rfl (by rfl) (fun w' => ?_) ?_
          rotate_left
          · (go_simp; try with_reducible rfl)
          try simp only [Act.put, List.setIfInBounds_toArray, List.set_cons_zero, List.set_cons_succ]
          refine wpT_brk rfl (by rfl) (fun K hK => ?_)
          go_wp2_with fail
          refine wpT_end ?_
          go_wp2
          case roundEnd =>
            refine ⟨⟨k + 1, T + 1, by have := HT.out; omega, by have := HT.out; have := HK.out; omega, by first | rfl | rw [HW.out], ?_, (HC.out.setCell (.inl (by simp)) _).drew.drew⟩, by first | (rw [HW.out]; simp only [intOf]; have := HK.out; omega) | (simp only [intOf]; have := HK.out; omega)⟩
            rw [row_drew, row_drew, row_setCell_same, HR.out, HNX.out]
            show some ((natL .u32 (w2 W0 k)).toArray.setIfInBounds T (.int .u32 (z3 : Int))) = _
            rw [natL_set]
        · have hk48 : k = 48 := by omega
          have dk : decide ((T : Int) < 64) = false := by rw [decide_eq_false_iff_not]; omega
          rw [hk48] at HR
          have HWN2 := Lib.hid (w2_len W0 HWN.out 48)
          have HWL2 := Lib.hid (w2_lt W0 HWL.out 48)
          obtain ⟨W, hW⟩ : ∃ W, W = w2 W0 48 := ⟨_, rfl⟩
          rw [← hW] at HWN2 HWL2 HR
          have HWW := Lib.hid hW
          clear hW hT hk hk2 hk48
          -- the world in which the rounds go on
          obtain ⟨b9, hb9⟩ : ∃ B, B = wr.heap.size := ⟨_, rfl⟩
          obtain ⟨Y, hY⟩ : ∃ Y, Y = wr.alloc (.cells (natL .u32 (v8of h).L).toArray 41) := ⟨_, rfl⟩
          have hb29 : b2 < wr.heap.size := row_lt HR.out
          have hrb : wr.row? b = some (natL .u32 h ++ hashT p n).toArray := by rw [HC.out.row (row_lt HRV.out) (by simp; exact HNE.out)]; exact HRV.out
          have hb9b := row_lt hrb
          have HRBW := Lib.hid hrb
          have HCY : Hid (Chg [b2] V Y) := Lib.hid (by rw [hY]; exact HC.out.alloc _)
          have HRY2 : Hid (Y.row? b2 = some (natL .u32 W).toArray) := Lib.hid (by rw [hY, row_alloc_past _ _ _ hb29]; exact HR.out)
          have HRY9 : Hid (Y.row? b9 = some (natL .u32 (vsN (v8of h) W 0).L).toArray) := Lib.hid (by rw [hY]; exact row_alloc_at _ _ _ _ hb9)
          have HRYB : Hid (Y.row? b = some (natL .u32 h ++ hashT p n).toArray) := Lib.hid (by rw [hY, row_alloc_past _ _ _ hb9b]; exact hrb)
          have HN9 : Hid (b ≠ b9 ∧ b2 ≠ b9 ∧ V.heap.size ≤ b9) := Lib.hid ⟨by omega, by omega, by have := HC.out.size; omega⟩
          have HB9 := Lib.hid hb9
          have HY := Lib.hid hY
          clear hb9 hY hb29 hrb hb9b
          go_upto_region 12 with (fail)
          go_wp2_with (first | (refine wpList_load_part a41 (natL .u32 (v8of h).L) rfl _ rfl rfl rfl (fun j u hu => by
            rw [← v8_list h HH.out.hl] at hu
            have hj : j < 8 := by
              have := (List.getElem?_eq_some_iff.1 hu).1
              rw [natL_len, HH.out.hl] at this; exact this
            rw [Nat.zero_add, row_cell HRBW.out, hash_h h p n j HH.out.hl hj, ← hu]
            simp [natL, HH.out.hl, hj]) ?_) | (refine wpList_store_new a41 _ _ rfl rfl rfl rfl rfl rfl rfl rfl ?_))
          rw [← HB9.out, ← HY.out]
          clear HY
          have HL9 : Hid (LaidOk Y) := Lib.hid ((HL.out.keep HCV.out (by simp)).keep HCY.out (by
            have h0 := World.block_lt_of_cell? w _ (HL.out 0 1116352408 rfl)
            have := HB2.out
            simp
            simp only [] at h0
            omega))
          have HP9 : Hid (0 ≠ b9) := Lib.hid (by
            have h0 := World.block_lt_of_cell? w _ (HL.out 0 1116352408 rfl)
            have := HN9.out.2.2
            have := HCV.out.size
            simp only [] at h0
            omega)
          go_loopw [87, 10, 11, 12, 13, 14, 15] (fun i _ _ _ _ _ _ wr => ∃ k : Nat, k ≤ 64 ∧ i = .int .i64 k ∧ wr.row? b9 = some (natL .u32 (vsN (v8of h) W k).L).toArray ∧ wr.row? b2 = some (natL .u32 W).toArray ∧ Chg [b9] Y wr) (fun i _ _ _ _ _ _ _ => 64 - (intOf i).toNat)
          case atStart => exact ⟨0, by omega, rfl, HRY9.out, HRY2.out, Chg.refl _ _⟩
          case round =>
            obtain ⟨k, hk, rfl, hr9, hr2, hch⟩ := hrel
            have HR2' := Lib.hid hr2
            have HC9 := Lib.hid hch
            clear hr2 hch
            by_cases hk2 : k < 64
            · have HK := Lib.hid hk2
              have HW : Hid (wrap64 ((k : Int) + 1) = ((k + 1 : Nat) : Int)) := Lib.hid (by rw [IntWalk.wrap64_in _ ⟨by omega, by omega⟩]; omega)
              have hok := vs_ok (v8of h) W (by
                refine ⟨?_, ?_, ?_, ?_, ?_, ?_, ?_, ?_⟩ <;> exact getD_lt HH.out.hb (by decide) _) k
              obtain ⟨vv, hvv⟩ : ∃ v, v = vsN (v8of h) W k := ⟨_, rfl⟩
              have hstep : vsN (v8of h) W (k + 1) = roundN vv (addsL.getD k 0) (W.getD k 0) := by rw [hvv]; rfl
              rw [← hvv] at hr9 hok
              clear hvv
              obtain ⟨v0, v1, v2, v3, v4, v5, v6, v7⟩ := vv
              obtain ⟨m0, m1, m2, m3, m4, m5, m6, m7⟩ := hok
              simp only [] at m0 m1 m2 m3 m4 m5 m6 m7
              obtain ⟨ad, had⟩ : ∃ x, x = addsL.getD k 0 := ⟨_, rfl⟩
              obtain ⟨wk, hwk⟩ : ∃ x, x = W.getD k 0 := ⟨_, rfl⟩
              have mad : ad < 4294967296 := by rw [had]; exact getD_lt adds_lt (by decide) k
              have mwk : wk < 4294967296 := by rw [hwk]; exact getD_lt HWL2.out (by decide) k
              have qad : wr.cell? ⟨0, k, none⟩ = some (.int .u32 (ad : Int)) := by
                have := HL9.out.keep HC9.out (by simp; exact HP9.out)
                refine this k ad ?_
                rw [had, List.getD_eq_getElem?_getD, List.getElem?_eq_getElem (by show k < 64; exact hk2)]
                rfl
              have qwk : wr.cell? ⟨b2, k, none⟩ = some (.int .u32 (wk : Int)) := by rw [row_cell HR2'.out, natL_get _ _ _ (by rw [HWN2.out]; exact hk2), hwk]
              have q0 : wr.cell? ⟨b9, 0, none⟩ = some (.int .u32 (v0 : Int)) := by rw [row_cell hr9]; rfl
              have q1 : wr.cell? ⟨b9, 1, none⟩ = some (.int .u32 (v1 : Int)) := by rw [row_cell hr9]; rfl
              have q2 : wr.cell? ⟨b9, 2, none⟩ = some (.int .u32 (v2 : Int)) := by rw [row_cell hr9]; rfl
              have q3 : wr.cell? ⟨b9, 3, none⟩ = some (.int .u32 (v3 : Int)) := by rw [row_cell hr9]; rfl
              have q4 : wr.cell? ⟨b9, 4, none⟩ = some (.int .u32 (v4 : Int)) := by rw [row_cell hr9]; rfl
              have q5 : wr.cell? ⟨b9, 5, none⟩ = some (.int .u32 (v5 : Int)) := by rw [row_cell hr9]; rfl
              have q6 : wr.cell? ⟨b9, 6, none⟩ = some (.int .u32 (v6 : Int)) := by rw [row_cell hr9]; rfl
              have q7 : wr.cell? ⟨b9, 7, none⟩ = some (.int .u32 (v7 : Int)) := by rw [row_cell hr9]; rfl
              have HR9 := Lib.hid hr9
              rw [← had, ← hwk] at hstep
              obtain ⟨r1, hr1⟩ : ∃ x, x = rotl v4 26 := ⟨_, rfl⟩
              have lr1 : r1 < 4294967296 := by rw [hr1]; exact rotl_lt _ _ m4
              have R1 : Hid (∀ w, Calls Tryd.prog 16 #[.int .u32 (v4 : Int), .int .i64 (-6)] w fun e w' => e = .returned (.int .u32 (r1 : Int)) ∧ w' = w) := Lib.hid (fun w => by rw [hr1]; exact rot_any v4 26 (-6) m4 (by decide) (by decide) w)
              obtain ⟨r2, hr2⟩ : ∃ x, x = rotl v4 21 := ⟨_, rfl⟩
              have lr2 : r2 < 4294967296 := by rw [hr2]; exact rotl_lt _ _ m4
              have R2 : Hid (∀ w, Calls Tryd.prog 16 #[.int .u32 (v4 : Int), .int .i64 (-11)] w fun e w' => e = .returned (.int .u32 (r2 : Int)) ∧ w' = w) := Lib.hid (fun w => by rw [hr2]; exact rot_any v4 21 (-11) m4 (by decide) (by decide) w)
              obtain ⟨r3, hr3⟩ : ∃ x, x = rotl v4 7 := ⟨_, rfl⟩
              have lr3 : r3 < 4294967296 := by rw [hr3]; exact rotl_lt _ _ m4
              have R3 : Hid (∀ w, Calls Tryd.prog 16 #[.int .u32 (v4 : Int), .int .i64 (-25)] w fun e w' => e = .returned (.int .u32 (r3 : Int)) ∧ w' = w) := Lib.hid (fun w => by rw [hr3]; exact rot_any v4 7 (-25) m4 (by decide) (by decide) w)
              obtain ⟨r4, hr4⟩ : ∃ x, x = rotl v0 30 := ⟨_, rfl⟩
              have lr4 : r4 < 4294967296 := by rw [hr4]; exact rotl_lt _ _ m0
              have R4 : Hid (∀ w, Calls Tryd.prog 16 #[.int .u32 (v0 : Int), .int .i64 (-2)] w fun e w' => e = .returned (.int .u32 (r4 : Int)) ∧ w' = w) := Lib.hid (fun w => by rw [hr4]; exact rot_any v0 30 (-2) m0 (by decide) (by decide) w)
              obtain ⟨r5, hr5⟩ : ∃ x, x = rotl v0 19 := ⟨_, rfl⟩
              have lr5 : r5 < 4294967296 := by rw [hr5]; exact rotl_lt _ _ m0
              have R5 : Hid (∀ w, Calls Tryd.prog 16 #[.int .u32 (v0 : Int), .int .i64 (-13)] w fun e w' => e = .returned (.int .u32 (r5 : Int)) ∧ w' = w) := Lib.hid (fun w => by rw [hr5]; exact rot_any v0 19 (-13) m0 (by decide) (by decide) w)
              obtain ⟨r6, hr6⟩ : ∃ x, x = rotl v0 10 := ⟨_, rfl⟩
              have lr6 : r6 < 4294967296 := by rw [hr6]; exact rotl_lt _ _ m0
              have R6 : Hid (∀ w, Calls Tryd.prog 16 #[.int .u32 (v0 : Int), .int .i64 (-22)] w fun e w' => e = .returned (.int .u32 (r6 : Int)) ∧ w' = w) := Lib.hid (fun w => by rw [hr6]; exact rot_any v0 10 (-22) m0 (by decide) (by decide) w)
              obtain ⟨y1, hy1⟩ : ∃ x, x = r1 ^^^ r2 := ⟨_, rfl⟩
              have By1 : bits .xor .u32 (r1 : Int) (r2 : Int) = (y1 : Int) := by rw [hy1]; exact (bit_u32 r1 r2 lr1 lr2).2.1
              have ly1 : y1 < 4294967296 := by rw [hy1]; exact (Nat.xor_lt_two_pow (n := 32) lr1 lr2)
              obtain ⟨y2, hy2⟩ : ∃ x, x = y1 ^^^ r3 := ⟨_, rfl⟩
              have By2 : bits .xor .u32 (y1 : Int) (r3 : Int) = (y2 : Int) := by rw [hy2]; exact (bit_u32 y1 r3 ly1 lr3).2.1
              have ly2 : y2 < 4294967296 := by rw [hy2]; exact (Nat.xor_lt_two_pow (n := 32) ly1 lr3)
              obtain ⟨z1, hz1⟩ : ∃ x, x = (v7 + y2) % 4294967296 := ⟨_, rfl⟩
              have Az1 : IntKind.u32.wrap ((v7 : Int) + (y2 : Int)) = (z1 : Int) := by rw [u32w]; omega
              have lz1 : z1 < 4294967296 := by omega
              obtain ⟨y3, hy3⟩ : ∃ x, x = v5 ^^^ v6 := ⟨_, rfl⟩
              have By3 : bits .xor .u32 (v5 : Int) (v6 : Int) = (y3 : Int) := by rw [hy3]; exact (bit_u32 v5 v6 m5 m6).2.1
              have ly3 : y3 < 4294967296 := by rw [hy3]; exact (Nat.xor_lt_two_pow (n := 32) m5 m6)
              obtain ⟨y4, hy4⟩ : ∃ x, x = v4 &&& y3 := ⟨_, rfl⟩
              have By4 : bits .and .u32 (v4 : Int) (y3 : Int) = (y4 : Int) := by rw [hy4]; exact (bit_u32 v4 y3 m4 ly3).2.2
              have ly4 : y4 < 4294967296 := by rw [hy4]; exact (Nat.and_lt_two_pow (n := 32) _ ly3)
              obtain ⟨y5, hy5⟩ : ∃ x, x = v6 ^^^ y4 := ⟨_, rfl⟩
              have By5 : bits .xor .u32 (v6 : Int) (y4 : Int) = (y5 : Int) := by rw [hy5]; exact (bit_u32 v6 y4 m6 ly4).2.1
              have ly5 : y5 < 4294967296 := by rw [hy5]; exact (Nat.xor_lt_two_pow (n := 32) m6 ly4)
              obtain ⟨z2, hz2⟩ : ∃ x, x = (z1 + y5) % 4294967296 := ⟨_, rfl⟩
              have Az2 : IntKind.u32.wrap ((z1 : Int) + (y5 : Int)) = (z2 : Int) := by rw [u32w]; omega
              have lz2 : z2 < 4294967296 := by omega
              obtain ⟨z3, hz3⟩ : ∃ x, x = (z2 + ad) % 4294967296 := ⟨_, rfl⟩
              have Az3 : IntKind.u32.wrap ((z2 : Int) + (ad : Int)) = (z3 : Int) := by rw [u32w]; omega
              have lz3 : z3 < 4294967296 := by omega
              obtain ⟨t, ht⟩ : ∃ x, x = (z3 + wk) % 4294967296 := ⟨_, rfl⟩
              have At : IntKind.u32.wrap ((z3 : Int) + (wk : Int)) = (t : Int) := by rw [u32w]; omega
              have lt : t < 4294967296 := by omega
              obtain ⟨y6, hy6⟩ : ∃ x, x = r4 ^^^ r5 := ⟨_, rfl⟩
              have By6 : bits .xor .u32 (r4 : Int) (r5 : Int) = (y6 : Int) := by rw [hy6]; exact (bit_u32 r4 r5 lr4 lr5).2.1
              have ly6 : y6 < 4294967296 := by rw [hy6]; exact (Nat.xor_lt_two_pow (n := 32) lr4 lr5)
              obtain ⟨y7, hy7⟩ : ∃ x, x = y6 ^^^ r6 := ⟨_, rfl⟩
              have By7 : bits .xor .u32 (y6 : Int) (r6 : Int) = (y7 : Int) := by rw [hy7]; exact (bit_u32 y6 r6 ly6 lr6).2.1
              have ly7 : y7 < 4294967296 := by rw [hy7]; exact (Nat.xor_lt_two_pow (n := 32) ly6 lr6)
              obtain ⟨y8, hy8⟩ : ∃ x, x = v0 &&& v1 := ⟨_, rfl⟩
              have By8 : bits .and .u32 (v0 : Int) (v1 : Int) = (y8 : Int) := by rw [hy8]; exact (bit_u32 v0 v1 m0 m1).2.2
              have ly8 : y8 < 4294967296 := by rw [hy8]; exact (Nat.and_lt_two_pow (n := 32) _ m1)
              obtain ⟨y9, hy9⟩ : ∃ x, x = v0 ||| v1 := ⟨_, rfl⟩
              have By9 : bits .or .u32 (v0 : Int) (v1 : Int) = (y9 : Int) := by rw [hy9]; exact (bit_u32 v0 v1 m0 m1).1
              have ly9 : y9 < 4294967296 := by rw [hy9]; exact (Nat.or_lt_two_pow (n := 32) m0 m1)
              obtain ⟨y10, hy10⟩ : ∃ x, x = v2 &&& y9 := ⟨_, rfl⟩
              have By10 : bits .and .u32 (v2 : Int) (y9 : Int) = (y10 : Int) := by rw [hy10]; exact (bit_u32 v2 y9 m2 ly9).2.2
              have ly10 : y10 < 4294967296 := by rw [hy10]; exact (Nat.and_lt_two_pow (n := 32) _ ly9)
              obtain ⟨y11, hy11⟩ : ∃ x, x = y8 ||| y10 := ⟨_, rfl⟩
              have By11 : bits .or .u32 (y8 : Int) (y10 : Int) = (y11 : Int) := by rw [hy11]; exact (bit_u32 y8 y10 ly8 ly10).1
              have ly11 : y11 < 4294967296 := by rw [hy11]; exact (Nat.or_lt_two_pow (n := 32) ly8 ly10)
              obtain ⟨u, hu⟩ : ∃ x, x = (y7 + y11) % 4294967296 := ⟨_, rfl⟩
              have Au : IntKind.u32.wrap ((y7 : Int) + (y11 : Int)) = (u : Int) := by rw [u32w]; omega
              have lu : u < 4294967296 := by omega
              obtain ⟨n0, hn0⟩ : ∃ x, x = (t + u) % 4294967296 := ⟨_, rfl⟩
              have An0 : IntKind.u32.wrap ((t : Int) + (u : Int)) = (n0 : Int) := by rw [u32w]; omega
              have ln0 : n0 < 4294967296 := by omega
              obtain ⟨n4, hn4⟩ : ∃ x, x = (v3 + t) % 4294967296 := ⟨_, rfl⟩
              have An4 : IntKind.u32.wrap ((v3 : Int) + (t : Int)) = (n4 : Int) := by rw [u32w]; omega
              have ln4 : n4 < 4294967296 := by omega
              have HNX : Hid (vsN (v8of h) W (k + 1) = ⟨n0, v0, v1, v2, n4, v4, v5, v6⟩) := Lib.hid (by
                rw [hstep]
                unfold roundN tN uN
                simp only []
                rw [← hr1, ← hr2, ← hr3, ← hr4, ← hr5, ← hr6, ← hy1, ← hy2, ← hz1, ← hy3, ← hy4, ← hy5, ← hz2, ← hz3, ← ht, ← hy6, ← hy7, ← hy8, ← hy9, ← hy10, ← hy11, ← hu, ← hn0, ← hn4])
              have dk : decide ((k : Int) < 64) = true := by rw [decide_eq_true_eq]; omega
              have hkI : (k : Int) < 64 := by omega
              clear hr9 hstep had hwk hr1 hr2 hr3 hr4 hr5 hr6 hy1 hy2 hy3 hy4 hy5 hy6 hy7 hy8 hy9 hy10 hy11 hz1 hz2 hz3 ht hu hn0 hn4 lr1 lr2 lr3 lr4 lr5 lr6 ly1 ly2 ly3 ly4 ly5 ly6 ly7 ly8 ly9 ly10 ly11 lz1 lz2 lz3 lt lu ln0 ln4 m0 m1 m2 m3 m4 m5 m6 m7 mad mwk
              go_upto_region 16 with (fail)
              refine wp_region_C (fun w' => w'.cell? ⟨b9, 4, none⟩ = some (.int .u32 (v4 : Int)) ∧ w'.cell? ⟨b9, 5, none⟩ = some (.int .u32 (v5 : Int)) ∧ w'.cell? ⟨b9, 6, none⟩ = some (.int .u32 (v6 : Int))) [(0, 0), (1, 1), (2, 0), (3, 1), (4, 0), (5, 1), (6, 0), (7, 0), (8, 0)] rfl (by kernel_rfl) ?hSC ?hTC
              case hSC => exact ⟨q4, q5, q6⟩
              refine wpT_pureD (v := ?_) (some 90) rfl rfl (by rfl) (fun w' => ?_) ?_
              rotate_left
              · (go_simp; try with_reducible rfl)
              try simp only [Act.put, List.setIfInBounds_toArray, List.set_cons_zero, List.set_cons_succ]
              refine wpT_readD (v := ?_) (some 91) rfl rfl (by rfl) (fun w' hw => ?_) ?_
              rotate_left
              · (obtain ⟨q0, q1, q2⟩ := hw; go_simp; try with_reducible rfl)
              try simp only [Act.put, List.setIfInBounds_toArray, List.set_cons_zero, List.set_cons_succ]
              refine wpT_pureD (v := ?_) (some 92) rfl rfl (by rfl) (fun w' => ?_) ?_
              rotate_left
              · (go_simp; try with_reducible rfl)
              try simp only [Act.put, List.setIfInBounds_toArray, List.set_cons_zero, List.set_cons_succ]
              refine wpT_readD (v := ?_) (some 93) rfl rfl (by rfl) (fun w' hw => ?_) ?_
              rotate_left
              · (obtain ⟨q0, q1, q2⟩ := hw; go_simp; try with_reducible rfl)
              try simp only [Act.put, List.setIfInBounds_toArray, List.set_cons_zero, List.set_cons_succ]
              refine wpT_pureD (v := ?_) (some 94) rfl rfl (by rfl) (fun w' => ?_) ?_
              rotate_left
              · (go_simp; try with_reducible rfl)
              try simp only [Act.put, List.setIfInBounds_toArray, List.set_cons_zero, List.set_cons_succ]
              refine wpT_readD (v := ?_) (some 95) rfl rfl (by rfl) (fun w' hw => ?_) ?_
              rotate_left
              · (obtain ⟨q0, q1, q2⟩ := hw; go_simp; try with_reducible rfl)
              try simp only [Act.put, List.setIfInBounds_toArray, List.set_cons_zero, List.set_cons_succ]
              refine wpT_pureD (v := ?_) (some 11) rfl rfl (by rfl) (fun w' => ?_) ?_
              rotate_left
              · (go_simp; try with_reducible rfl)
              try simp only [Act.put, List.setIfInBounds_toArray, List.set_cons_zero, List.set_cons_succ]
              refine wpT_pureD (v := ?_) (some 12) rfl rfl (by rfl) (fun w' => ?_) ?_
              rotate_left
              · (go_simp; try with_reducible rfl)
              try simp only [Act.put, List.setIfInBounds_toArray, List.set_cons_zero, List.set_cons_succ]
              refine wpT_pureD (v := ?_) (some 13) rfl rfl (by rfl) (fun w' => ?_) ?_
              rotate_left
              · (go_simp; try with_reducible rfl)
              try simp only [Act.put, List.setIfInBounds_toArray, List.set_cons_zero, List.set_cons_succ]
              refine wpT_end ?_
              go_upto_region 17 with (fail)
              refine wp_region_C (fun w' => w'.cell? ⟨b9, 7, none⟩ = some (.int .u32 (v7 : Int)) ∧ w'.cell? ⟨0, k, none⟩ = some (.int .u32 (ad : Int)) ∧ w'.cell? ⟨b2, k, none⟩ = some (.int .u32 (wk : Int))) [(0, 0), (1, 1), (2, 0), (3, 0), (4, 0), (5, 0), (6, 0), (7, 0), (8, 0), (9, 0), (10, 0), (11, 0), (12, 0), (13, 0), (14, 0), (15, 0), (16, 0), (17, 0), (18, 0), (19, 0), (20, 0), (21, 0), (22, 0), (23, 0), (24, 1), (25, 0), (26, 0), (27, 0), (28, 1), (29, 0), (30, 0)] rfl (by kernel_rfl) ?hSD ?hTD
              case hSD => exact ⟨q7, qad, qwk⟩
              refine wpT_pureD (v := ?_) (some 96) rfl rfl (by rfl) (fun w' => ?_) ?_
              rotate_left
              · (go_simp; try with_reducible rfl)
              try simp only [Act.put, List.setIfInBounds_toArray, List.set_cons_zero, List.set_cons_succ]
              refine wpT_readD (v := ?_) (some 97) rfl rfl (by rfl) (fun w' hw => ?_) ?_
              rotate_left
              · (obtain ⟨q0, q1, q2⟩ := hw; go_simp; try with_reducible rfl)
              try simp only [Act.put, List.setIfInBounds_toArray, List.set_cons_zero, List.set_cons_succ]
              refine wpT_pureD (v := ?_) (some 98) rfl rfl (by rfl) (fun w' => ?_) ?_
              rotate_left
              · (go_simp; try with_reducible rfl)
              try simp only [Act.put, List.setIfInBounds_toArray, List.set_cons_zero, List.set_cons_succ]
              refine wpT_pureD (v := ?_) (some 99) rfl rfl (by rfl) (fun w' => ?_) ?_
              rotate_left
              · (go_simp; try with_reducible rfl)
              try simp only [Act.put, List.setIfInBounds_toArray, List.set_cons_zero, List.set_cons_succ]
              refine wpT_call (d := some 100) (f := 16) (args := #[.int .u32 (v4 : Int), .int .i64 (-6)]) (v := .int .u32 (r1 : Int)) rfl rfl (by rfl) (fun w' => by first | rfl | (go_simp; done) | (go_simp; rfl)) (fun w' => R1.out w') ?_
              try simp only [Act.put, List.setIfInBounds_toArray, List.set_cons_zero, List.set_cons_succ]
              try simp only [Act.put, List.setIfInBounds_toArray, List.set_cons_zero, List.set_cons_succ]
              refine wpT_pureD (v := ?_) (some 101) rfl rfl (by rfl) (fun w' => ?_) ?_
              rotate_left
              · (go_simp; try with_reducible rfl)
              try simp only [Act.put, List.setIfInBounds_toArray, List.set_cons_zero, List.set_cons_succ]
              refine wpT_pureD (v := ?_) (some 102) rfl rfl (by rfl) (fun w' => ?_) ?_
              rotate_left
              · (go_simp; try with_reducible rfl)
              try simp only [Act.put, List.setIfInBounds_toArray, List.set_cons_zero, List.set_cons_succ]
              refine wpT_call (d := some 103) (f := 16) (args := #[.int .u32 (v4 : Int), .int .i64 (-11)]) (v := .int .u32 (r2 : Int)) rfl rfl (by rfl) (fun w' => by first | rfl | (go_simp; done) | (go_simp; rfl)) (fun w' => R2.out w') ?_
              try simp only [Act.put, List.setIfInBounds_toArray, List.set_cons_zero, List.set_cons_succ]
              try simp only [Act.put, List.setIfInBounds_toArray, List.set_cons_zero, List.set_cons_succ]
              refine wpT_pureD (v := ?_) (some 104) rfl rfl (by rfl) (fun w' => ?_) ?_
              rotate_left
              · (go_simp; try with_reducible rfl)
              try simp only [Act.put, List.setIfInBounds_toArray, List.set_cons_zero, List.set_cons_succ]
              refine wpT_pureD (v := ?_) (some 105) rfl rfl (by rfl) (fun w' => ?_) ?_
              rotate_left
              · (go_simp; try with_reducible rfl)
              try simp only [Act.put, List.setIfInBounds_toArray, List.set_cons_zero, List.set_cons_succ]
              refine wpT_pureD (v := ?_) (some 106) rfl rfl (by rfl) (fun w' => ?_) ?_
              rotate_left
              · (go_simp; try with_reducible rfl)
              try simp only [Act.put, List.setIfInBounds_toArray, List.set_cons_zero, List.set_cons_succ]
              refine wpT_call (d := some 107) (f := 16) (args := #[.int .u32 (v4 : Int), .int .i64 (-25)]) (v := .int .u32 (r3 : Int)) rfl rfl (by rfl) (fun w' => by first | rfl | (go_simp; done) | (go_simp; rfl)) (fun w' => R3.out w') ?_
              try simp only [Act.put, List.setIfInBounds_toArray, List.set_cons_zero, List.set_cons_succ]
              try simp only [Act.put, List.setIfInBounds_toArray, List.set_cons_zero, List.set_cons_succ]
              refine wpT_pureD (v := ?_) (some 108) rfl rfl (by rfl) (fun w' => ?_) ?_
              rotate_left
              · (go_simp; try with_reducible rfl)
              try simp only [Act.put, List.setIfInBounds_toArray, List.set_cons_zero, List.set_cons_succ]
              refine wpT_pureD (v := ?_) (some 109) rfl rfl (by rfl) (fun w' => ?_) ?_
              rotate_left
              · (go_simp; try with_reducible rfl)
              try simp only [Act.put, List.setIfInBounds_toArray, List.set_cons_zero, List.set_cons_succ]
              refine wpT_pureD (v := ?_) (some 110) rfl rfl (by rfl) (fun w' => ?_) ?_
              rotate_left
              · (go_simp; try with_reducible rfl)
              try simp only [Act.put, List.setIfInBounds_toArray, List.set_cons_zero, List.set_cons_succ]
              refine wpT_pureD (v := ?_) (some 111) rfl rfl (by rfl) (fun w' => ?_) ?_
              rotate_left
              · (go_simp; try with_reducible rfl)
              try simp only [Act.put, List.setIfInBounds_toArray, List.set_cons_zero, List.set_cons_succ]
              refine wpT_pureD (v := ?_) (some 112) rfl rfl (by rfl) (fun w' => ?_) ?_
              rotate_left
              · (go_simp; try with_reducible rfl)
              try simp only [Act.put, List.setIfInBounds_toArray, List.set_cons_zero, List.set_cons_succ]
              refine wpT_pureD (v := ?_) (some 113) rfl rfl (by rfl) (fun w' => ?_) ?_
              rotate_left
              · (go_simp; try with_reducible rfl)
              try simp only [Act.put, List.setIfInBounds_toArray, List.set_cons_zero, List.set_cons_succ]
              refine wpT_pureD (v := ?_) (some 114) rfl rfl (by rfl) (fun w' => ?_) ?_
              rotate_left
              · (go_simp; try with_reducible rfl)
              try simp only [Act.put, List.setIfInBounds_toArray, List.set_cons_zero, List.set_cons_succ]
              refine wpT_pureD (v := ?_) (some 115) rfl rfl (by rfl) (fun w' => ?_) ?_
              rotate_left
              · (go_simp; try with_reducible rfl)
              try simp only [Act.put, List.setIfInBounds_toArray, List.set_cons_zero, List.set_cons_succ]
              refine wpT_pureD (v := ?_) (some 116) rfl rfl (by rfl) (fun w' => ?_) ?_
              rotate_left
              · (go_simp; try with_reducible rfl)
              try simp only [Act.put, List.setIfInBounds_toArray, List.set_cons_zero, List.set_cons_succ]
              refine wpT_pureD (v := ?_) (some 117) rfl rfl (by rfl) (fun w' => ?_) ?_
              rotate_left
              · (go_simp; try with_reducible rfl)
              try simp only [Act.put, List.setIfInBounds_toArray, List.set_cons_zero, List.set_cons_succ]
              refine wpT_pureD (v := ?_) (some 118) rfl rfl (by rfl) (fun w' => ?_) ?_
              rotate_left
              · (go_simp; try with_reducible rfl)
              try simp only [Act.put, List.setIfInBounds_toArray, List.set_cons_zero, List.set_cons_succ]
              refine wpT_pureD (v := ?_) (some 119) rfl rfl (by rfl) (fun w' => ?_) ?_
              rotate_left
              · (go_simp; try with_reducible rfl)
              try simp only [Act.put, List.setIfInBounds_toArray, List.set_cons_zero, List.set_cons_succ]
              refine wpT_readD (v := ?_) (some 120) rfl rfl (by rfl) (fun w' hw => ?_) ?_
              rotate_left
              · (obtain ⟨q0, q1, q2⟩ := hw; go_simp; try with_reducible rfl)
              try simp only [Act.put, List.setIfInBounds_toArray, List.set_cons_zero, List.set_cons_succ]
              refine wpT_pureD (v := ?_) (some 121) rfl rfl (by rfl) (fun w' => ?_) ?_
              rotate_left
              · (go_simp; try with_reducible rfl)
              try simp only [Act.put, List.setIfInBounds_toArray, List.set_cons_zero, List.set_cons_succ]
              refine wpT_pureD (v := ?_) (some 122) rfl rfl (by rfl) (fun w' => ?_) ?_
              rotate_left
              · (go_simp; try with_reducible rfl)
              try simp only [Act.put, List.setIfInBounds_toArray, List.set_cons_zero, List.set_cons_succ]
              refine wpT_pureD (v := ?_) (some 123) rfl rfl (by rfl) (fun w' => ?_) ?_
              rotate_left
              · (go_simp; try with_reducible rfl)
              try simp only [Act.put, List.setIfInBounds_toArray, List.set_cons_zero, List.set_cons_succ]
              refine wpT_readD (v := ?_) (some 124) rfl rfl (by rfl) (fun w' hw => ?_) ?_
              rotate_left
              · (obtain ⟨q0, q1, q2⟩ := hw; go_simp; try with_reducible rfl)
              try simp only [Act.put, List.setIfInBounds_toArray, List.set_cons_zero, List.set_cons_succ]
              refine wpT_pureD (v := ?_) (some 125) rfl rfl (by rfl) (fun w' => ?_) ?_
              rotate_left
              · (go_simp; try with_reducible rfl)
              try simp only [Act.put, List.setIfInBounds_toArray, List.set_cons_zero, List.set_cons_succ]
              refine wpT_pureD (v := ?_) (some 14) rfl rfl (by rfl) (fun w' => ?_) ?_
              rotate_left
              · (go_simp; try with_reducible rfl)
              try simp only [Act.put, List.setIfInBounds_toArray, List.set_cons_zero, List.set_cons_succ]
              refine wpT_end ?_
              go_upto_region 18 with (fail)
              refine wp_region_C (fun w' => w'.cell? ⟨b9, 0, none⟩ = some (.int .u32 (v0 : Int)) ∧ w'.cell? ⟨b9, 1, none⟩ = some (.int .u32 (v1 : Int)) ∧ w'.cell? ⟨b9, 2, none⟩ = some (.int .u32 (v2 : Int))) [(0, 0), (1, 1), (2, 0), (3, 1), (4, 0), (5, 1), (6, 0), (7, 0), (8, 0)] rfl (by kernel_rfl) ?hSE ?hTE
              case hSE => exact ⟨q0, q1, q2⟩
              refine wpT_pureD (v := ?_) (some 126) rfl rfl (by rfl) (fun w' => ?_) ?_
              rotate_left
              · (go_simp; try with_reducible rfl)
              try simp only [Act.put, List.setIfInBounds_toArray, List.set_cons_zero, List.set_cons_succ]
              refine wpT_readD (v := ?_) (some 127) rfl rfl (by rfl) (fun w' hw => ?_) ?_
              rotate_left
              · (obtain ⟨q0, q1, q2⟩ := hw; go_simp; try with_reducible rfl)
              try simp only [Act.put, List.setIfInBounds_toArray, List.set_cons_zero, List.set_cons_succ]
              refine wpT_pureD (v := ?_) (some 128) rfl rfl (by rfl) (fun w' => ?_) ?_
              rotate_left
              · (go_simp; try with_reducible rfl)
              try simp only [Act.put, List.setIfInBounds_toArray, List.set_cons_zero, List.set_cons_succ]
              refine wpT_readD (v := ?_) (some 129) rfl rfl (by rfl) (fun w' hw => ?_) ?_
              rotate_left
              · (obtain ⟨q0, q1, q2⟩ := hw; go_simp; try with_reducible rfl)
              try simp only [Act.put, List.setIfInBounds_toArray, List.set_cons_zero, List.set_cons_succ]
              refine wpT_pureD (v := ?_) (some 130) rfl rfl (by rfl) (fun w' => ?_) ?_
              rotate_left
              · (go_simp; try with_reducible rfl)
              try simp only [Act.put, List.setIfInBounds_toArray, List.set_cons_zero, List.set_cons_succ]
              refine wpT_readD (v := ?_) (some 131) rfl rfl (by rfl) (fun w' hw => ?_) ?_
              rotate_left
              · (obtain ⟨q0, q1, q2⟩ := hw; go_simp; try with_reducible rfl)
              try simp only [Act.put, List.setIfInBounds_toArray, List.set_cons_zero, List.set_cons_succ]
              refine wpT_pureD (v := ?_) (some 11) rfl rfl (by rfl) (fun w' => ?_) ?_
              rotate_left
              · (go_simp; try with_reducible rfl)
              try simp only [Act.put, List.setIfInBounds_toArray, List.set_cons_zero, List.set_cons_succ]
              refine wpT_pureD (v := ?_) (some 12) rfl rfl (by rfl) (fun w' => ?_) ?_
              rotate_left
              · (go_simp; try with_reducible rfl)
              try simp only [Act.put, List.setIfInBounds_toArray, List.set_cons_zero, List.set_cons_succ]
              refine wpT_pureD (v := ?_) (some 13) rfl rfl (by rfl) (fun w' => ?_) ?_
              rotate_left
              · (go_simp; try with_reducible rfl)
              try simp only [Act.put, List.setIfInBounds_toArray, List.set_cons_zero, List.set_cons_succ]
              refine wpT_end ?_
              go_wp2_with fail
              refine (R4.out _).mono ?_
              rintro e w' ⟨rfl, hw⟩
              obtain rfl := hw.symm
              go_wp2_with fail
              refine (R5.out _).mono ?_
              rintro e w' ⟨rfl, hw⟩
              obtain rfl := hw.symm
              go_wp2_with fail
              refine (R6.out _).mono ?_
              rintro e w' ⟨rfl, hw⟩
              obtain rfl := hw.symm
              go_wp2_with (refine wpList_store_row a41 _ _ rfl rfl rfl rfl rfl (by simp only [row_drew]; exact HR9.out) rfl rfl rfl ?_)
              case roundEnd =>
                refine ⟨⟨k + 1, HK.out, rfl, ?_, ?_, ((HC9.out.setRow (.inl (by simp)) _).drew.drew.drew)⟩, by simp only [intOf]; have := HK.out; omega⟩
                · rw [row_drew, row_drew, row_drew, row_setRow, if_pos rfl, HR9.out, HNX.out]
                  rfl
                · rw [row_drew, row_drew, row_drew, row_setRow, if_neg HN9.out.2.1]
                  exact HR2'.out
            · have hk64 : k = 64 := by omega
              have dk1 : decide ((k : Int) < 64) = false := by rw [decide_eq_false_iff_not]; omega
              rw [hk64] at hr9
              have hokv := vs_ok (v8of h) W (by
                refine ⟨?_, ?_, ?_, ?_, ?_, ?_, ?_, ?_⟩ <;> exact getD_lt HH.out.hb (by decide) _) 64
              have hvl := v8L_lt _ hokv
              obtain ⟨vL, hvL⟩ : ∃ v, v = (vsN (v8of h) W 64).L := ⟨_, rfl⟩
              have hlen : vL.length = 8 := by rw [hvL]; rfl
              rw [← hvL] at hr9 hvl
              have HBL : Hid (blockN h p = addH h vL 8) := Lib.hid (by rw [hvL, HWW.out, HW0.out]; rfl)
              have hrb : wr.row? b = some (natL .u32 (addH h vL 0) ++ hashT p n).toArray := by rw [HC9.out.row (row_lt HRYB.out) (by simp; exact HN9.out.1)]; exact HRYB.out
              have HRb := Lib.hid hrb
              have HR9 := Lib.hid hr9
              have HVL := Lib.hid hvl
              have HLN := Lib.hid hlen
              clear hk64 hokv hvl hvL hlen hrb hr9
              have HCL : Hid (∀ j u, (natL .u32 vL)[j]? = some u → wr.cell? ⟨b9, 0 + j, none⟩ = some u) := Lib.hid (fun j u hu => by
                rw [Nat.zero_add, row_cell HR9.out, ← hu]
                exact List.getElem?_toArray ..)
              have HNL : Hid ((natL .u32 vL).length = 8) := Lib.hid (by rw [natL_len]; exact HLN.out)
              go_wp2_with (refine wpList_load_part a41 (natL .u32 vL) rfl _ rfl rfl HNL.out HCL.out ?_)
              go_loopw [175, 16, 17] (fun i _ _ wq => ∃ k : Nat, k ≤ 8 ∧ i = .int .i64 k ∧ wq.row? b = some (natL .u32 (addH h vL k) ++ hashT p n).toArray ∧ Chg [b] wr wq) (fun i _ _ _ => 8 - (intOf i).toNat)
              case atStart => exact ⟨0, by omega, rfl, HRb.out, Chg.refl _ _⟩
              case round =>
                obtain ⟨j, hj, rfl, hrq, hch⟩ := hrel
                have HRQ := Lib.hid hrq
                have HCQ := Lib.hid hch
                clear hrq hch
                by_cases hj2 : j < 8
                · have HK := Lib.hid hj2
                  obtain ⟨x, hx⟩ : ∃ x, x = vL.getD j 0 := ⟨_, rfl⟩
                  obtain ⟨y, hy⟩ : ∃ q, q = (addH h vL j).getD j 0 := ⟨_, rfl⟩
                  obtain ⟨z, hz⟩ : ∃ q, q = (y + x) % 4294967296 := ⟨_, rfl⟩
                  have cx : (natL .u32 vL).toArray[j]? = some (.int .u32 (x : Int)) := by rw [natL_get _ _ _ (by rw [HLN.out]; exact hj2), hx]
                  have ei : ∀ w, Sem.run Tryd.prog (Instr.index 41 (.agg (natL .u32 vL).toArray) (.int .i64 (j : Int))) w = .ok (.int .u32 (x : Int)) w := fun w => run_index_arr w Tryd.underlying41 Tryd.underlying40 s40 hj2 cx
                  have cy : wr.cell? ⟨b, j, none⟩ = some (.int .u32 (y : Int)) := by rw [row_cell HRQ.out, hash_h _ _ _ _ (addH_len h vL HH.out.hl j) hj2, hy]
                  have fy : wr.frozen? ⟨b, j, none⟩ = false := row_free HRQ.out _
                  have A1 : IntKind.u32.wrap ((y : Int) + (x : Int)) = (z : Int) := by rw [u32w]; omega
                  have HNX : Hid (addH h vL (j + 1) = (addH h vL j).set j z) := Lib.hid (by rw [hz, hy, hx]; rfl)
                  have dk : decide ((j : Int) < 8) = true := by rw [decide_eq_true_eq]; omega
                  have hjI : (j : Int) < 8 := by omega
                  clear hx hy hz cx hj2
                  go_upto_region 25 with (fail)
                  refine wp_region_C (fun w' => w'.cell? ⟨b, j, none⟩ = some (.int .u32 (y : Int))) [(0, 0), (1, 0), (2, 0), (3, 0), (4, 0), (5, 1), (6, 0), (7, 0), (8, 0), (9, 0), (10, 0), (11, 3)] rfl (by kernel_rfl) ?hSF ?hTF
                  case hSF => exact cy
                  refine wpT_pureD (v := ?_) (some 179) rfl rfl (by rfl) (fun w' => ?_) ?_
                  rotate_left
                  · (go_simp; try with_reducible rfl)
                  try simp only [Act.put, List.setIfInBounds_toArray, List.set_cons_zero, List.set_cons_succ]
                  refine wpT_pureD (v := ?_) (some 180) rfl rfl (by rfl) (fun w' => ?_) ?_
                  rotate_left
                  · (go_simp; try with_reducible rfl)
                  try simp only [Act.put, List.setIfInBounds_toArray, List.set_cons_zero, List.set_cons_succ]
                  refine wpT_pureD (v := ?_) (some 181) rfl rfl (by rfl) (fun w' => ?_) ?_
                  rotate_left
                  · (go_simp; try with_reducible rfl)
                  try simp only [Act.put, List.setIfInBounds_toArray, List.set_cons_zero, List.set_cons_succ]
                  refine wpT_pureD (v := ?_) (some 182) rfl rfl (by rfl) (fun w' => ?_) ?_
                  rotate_left
                  · (go_simp; try with_reducible rfl)
                  try simp only [Act.put, List.setIfInBounds_toArray, List.set_cons_zero, List.set_cons_succ]
                  refine wpT_pureD (v := ?_) (some 183) rfl rfl (by rfl) (fun w' => ?_) ?_
                  rotate_left
                  · (go_simp; try with_reducible rfl)
                  try simp only [Act.put, List.setIfInBounds_toArray, List.set_cons_zero, List.set_cons_succ]
                  refine wpT_readD (v := ?_) (some 184) rfl rfl (by rfl) (fun w' hw => ?_) ?_
                  rotate_left
                  · (obtain q0 := hw; go_simp; try with_reducible rfl)
                  try simp only [Act.put, List.setIfInBounds_toArray, List.set_cons_zero, List.set_cons_succ]
                  refine wpT_pureD (v := ?_) (some 185) rfl rfl (by rfl) (fun w' => ?_) ?_
                  rotate_left
                  · (go_simp; try with_reducible rfl)
                  try simp only [Act.put, List.setIfInBounds_toArray, List.set_cons_zero, List.set_cons_succ]
                  refine wpT_pureD (v := ?_) (some 186) rfl rfl (by rfl) (fun w' => ?_) ?_
                  rotate_left
                  · (go_simp; try with_reducible rfl)
                  try simp only [Act.put, List.setIfInBounds_toArray, List.set_cons_zero, List.set_cons_succ]
                  refine wpT_pureD (v := ?_) (some 187) rfl rfl (by rfl) (fun w' => ?_) ?_
                  rotate_left
                  · (go_simp; try with_reducible rfl)
                  try simp only [Act.put, List.setIfInBounds_toArray, List.set_cons_zero, List.set_cons_succ]
                  refine wpT_pureD (v := ?_) (some 188) rfl rfl (by rfl) (fun w' => ?_) ?_
                  rotate_left
                  · (go_simp; try with_reducible rfl)
                  try simp only [Act.put, List.setIfInBounds_toArray, List.set_cons_zero, List.set_cons_succ]
                  refine wpT_pureD (v := ?_) (some 189) rfl rfl (by rfl) (fun w' => ?_) ?_
                  rotate_left
                  · (go_simp; try with_reducible rfl)
                  try simp only [Act.put, List.setIfInBounds_toArray, List.set_cons_zero, List.set_cons_succ]
                  refine wpT_brk rfl (by rfl) (fun K hK => ?_)
                  go_wp2_with fail
                  refine wpT_end ?_
                  go_wp2
                  case roundEnd =>
                    refine ⟨⟨j + 1, HK.out, rfl, ?_, (HCQ.out.setCell (.inl (by simp)) _).drew⟩, by simp only [intOf]; have := HK.out; omega⟩
                    rw [row_drew, row_setCell_same, HRQ.out, HNX.out]
                    show some ((natL .u32 (addH h vL j) ++ hashT p n).toArray.setIfInBounds j (.int .u32 (z : Int))) = _
                    rw [hash_set _ _ _ _ _ (addH_len h vL HH.out.hl j) HK.out]
                · have hj8 : j = 8 := by omega
                  have dk : decide ((j : Int) < 8) = false := by rw [decide_eq_false_iff_not]; omega
                  have hrq := HRQ.out
                  rw [hj8, ← HBL.out] at hrq
                  have HRF := Lib.hid hrq
                  clear hrq hj8
                  go_wp2
                  go_end0
                  refine ⟨rfl, ⟨HRF.out, ?_, HH.out.pl, ?_, HH.out.pb, HH.out.nb⟩, chg_join HCV.out HCY.out HC9.out HCQ.out (by have := HB2.out; omega) (by have := HN9.out.2.2; have := HCV.out.size; omega)⟩
                  · rw [HBL.out]; exact addH_len h vL HH.out.hl 8
                  · rw [HBL.out]; exact addH_lt h vL HH.out.hb 8
end Go.Proofs.L
