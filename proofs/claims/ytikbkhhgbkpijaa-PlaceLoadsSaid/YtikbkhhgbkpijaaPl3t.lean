/- Proved here: lemmas and contracts (Pl3t) for the laws of this seat, for all values of the stated types; no further condition. -/
import Derived.Test.YtikbkhhgbkpijaaPl2b
import Derived.Laws.BytesArg
import Derived.Deep.AppendLies
open Go Go.RowKit Go.Lib
namespace Go.Proofs.L
attribute [local irreducible] wpT
/-! PlaceLoads: the walk -/
theorem fit_any (w : World) : Calls Try.prog 7 #[] w fun e w' => e = .returned (.bool true) ∧ Chg [] w w' := (fit_ok w).mono fun e w' h => ⟨h.1, Below.chg h.2 []⟩
theorem made_mem : madeCells #[Value.int .u8 0] 65536 = mem (fun _ => 0) := by
  have h : (madeCells #[Value.int .u8 0] 65536).toList = (mem (fun _ => 0)).toList := by
    rw [toList_madeCells_one]
    apply List.ext_getElem?
    intro i
    rw [memA_get, List.getElem?_replicate]
    rfl
  exact Array.toList_inj.1 h
theorem mk_all (W : World) : (Instr.makeSlice 35 (.int .i64 65536) (.int .i64 65536)).run Try.prog W = .ok (.slice (some ⟨W.heap.size, 0, none⟩) 65536 65536) (W.alloc (.cells (mem fun _ => 0) 5)) := by
  have h := run_make_row' (P := Try.prog) 35 5 (.int .u8 0) 1 Try.underlying35 info5 rfl .i64 .i64 65536 (by decide) (by decide) W
  rw [made_mem] at h
  exact h
def fillN (x k : Nat) : Nat → Nat := fun i => if i < k then x else 0
theorem fillN_succ (x k : Nat) : up (fillN x k) k x = fillN x (k + 1) := by
  funext i
  unfold up fillN
  by_cases h : i = k
  · rw [if_pos h, if_pos (by omega)]
  · rw [if_neg h]
    by_cases h2 : i < k
    · rw [if_pos h2, if_pos (by omega)]
    · rw [if_neg h2, if_neg (by omega)]
theorem fill_all (x : Nat) : mem (fillN x 65536) = mem (fun _ => x) := mem_ext fun i hi => by unfold fillN; rw [if_pos hi]
theorem put_all (x : Nat) : mem (putN (fun _ => 0) 0 (fun _ => x) 65536) = mem (fun _ => x) := mem_ext fun i hi => by unfold putN; rw [if_pos (by omega)]
def spOf (bias : Nat) (s : Sg) : Sp := ⟨(bias + s.ad) % 4294967296, s.sz, s.rt⟩
theorem info63 : (Try.prog.info? 63).map (fun i => (i.zero, i.size, i.bytes)) = some (some (.agg #[.int .u32 0, .int .u32 0, .int .i64 0]), 3, 16) := by kernel_rfl
theorem spc_one (L : List Sp) : ∀ u ∈ L.flatMap SpC, u.oneCell' = true := by
  intro u hu
  obtain ⟨s, _, hs⟩ := List.mem_flatMap.1 hu
  simp only [SpC, List.mem_cons, List.not_mem_nil, or_false] at hs
  rcases hs with rfl | rfl | rfl <;> rfl
theorem addw_wrap {x a z : Nat} (h : z = (x + a) % 4294967296) : IntKind.u32.wrap ((x : Int) + (a : Int)) = (z : Int) := by rw [u32w, h]; omega
theorem w64id (x : Nat) (h : x < 8589934592) : wrap64 (x : Int) = (x : Int) := IntWalk.wrap64_in _ ⟨by omega, by omega⟩
theorem rhas_any (a n : Nat) (ha : a < 8589934592) (hn : n < 8589934592) (w : World) : Calls Try.prog 20 #[.int .i64 (a : Int), .int .i64 (n : Int)] w fun e w' => e = .returned (.bool (inRam a n)) ∧ w' = w := by
  obtain ⟨s, hs⟩ : ∃ s, s = a + n := ⟨_, rfl⟩
  have h1 : wrap64 ((a : Int) + (n : Int)) = (s : Int) := by rw [IntWalk.wrap64_in _ ⟨by omega, by omega⟩]; omega
  unfold inRam
  rw [← hs]
  have HA := Lib.hid ha
  clear ha hn hs
  by_cases h2 : 2147483648 ≤ a
  · have d2 : (2147483648 : Int) ≤ (a : Int) := by omega
    by_cases h3 : s ≤ 2147549184
    · have d3 : (s : Int) ≤ 2147549184 := by omega
      rw [decide_eq_true (And.intro h2 h3)]
      clear h2 h3
      go_enter Try.func20, Try.ntmps20
      go_wp2
      go_ret
      exact ⟨rfl, rfl⟩
    · have d3 : ¬ (s : Int) ≤ 2147549184 := by omega
      rw [decide_eq_false (fun h => h3 h.2)]
      clear h2 h3
      go_enter Try.func20, Try.ntmps20
      go_wp2
      go_ret
      exact ⟨rfl, rfl⟩
  · have d2 : ¬ (2147483648 : Int) ≤ (a : Int) := by omega
    rw [decide_eq_false (fun h => h2 h.1)]
    clear h2
    go_enter Try.func20, Try.ntmps20
    go_wp2
    go_ret
    exact ⟨rfl, rfl⟩
def okN (bias : Nat) (L : List Sg) : Bool := L.all fun s => fitS s (spOf bias s)
theorem okN_snoc (bias : Nat) (L : List Sg) (s : Sg) : okN bias (L ++ [s]) = (okN bias L && fitS s (spOf bias s)) := by unfold okN; simp
theorem take_succ' {S : List Sg} {k : Nat} {s : Sg} (h : S[k]? = some s) : S.take (k + 1) = S.take k ++ [s] := by
  obtain ⟨hk, e⟩ := List.getElem?_eq_some_iff.1 h
  rw [← List.take_append_getElem hk, e]
def flS (bias : Nat) (L : List Sg) : List Value := (L.map (spOf bias)).flatMap SpC
theorem flS_snoc (bias : Nat) (L : List Sg) (s : Sg) : flS bias (L ++ [s]) = flS bias L ++ SpC (spOf bias s) := by unfold flS; simp
theorem fits_ok (bias : Nat) : ∀ S : List Sg, fitsL S (S.map (spOf bias)) = okN bias S
  | [] => rfl
  | s :: S => by
    show (fitS s (spOf bias s) && fitsL S (S.map (spOf bias))) = _
    rw [fits_ok bias S]
    rfl
theorem load_ok' (bias : Nat) (S : List Sg) (f : Nat → Nat) : loadN S (S.map (spOf bias)) f = if okN bias S then (0, ldF 2147483648 S (S.map (spOf bias)) f) else (18, f) := by
  unfold loadN
  rw [if_neg (by simp), fits_ok]
theorem transM {w V w3 : World} {mb : Nat} (h1 : Chg [] w V) (h2 : Chg [mb] V w3) (hm : w.heap.size ≤ mb) : Chg [] w w3 :=
  ⟨h2.os.trans h1.os, h2.tape.trans h1.tape, h2.output.trans h1.output, Nat.le_trans h1.size h2.size, fun k hk _ => (h2.block k (Nat.lt_of_lt_of_le hk h1.size) (by rw [List.mem_singleton]; omega)).trans (h1.block k hk (by simp))⟩
set_option maxRecDepth 100000 in
set_option maxHeartbeats 16000000 in
theorem loads_walk {w : World} {p : Option Addr} {b o n c bias fill : Nat} {S : List Sg} {cs : Array Value} (hS : SgsAt w b o S) (hSn : S.length = n) (hp : 0 < n → p = some ⟨b, o, none⟩) (hlen : ∀ s ∈ S, s.len ≤ 140737488355328) (hcs : cs[33]? = some (.int .u32 (bias : Int))) (hb : bias < 4294967296) (hf : fill < 256) :
    Calls Try.prog 6 #[.slice p n c, .agg cs, .int .u8 (fill : Int)] w fun e w' => e = .returned (.bool true) ∧ Chg [] w w' := by
  obtain ⟨Pb, hPb⟩ : ∃ b, b = w.heap.size := ⟨_, rfl⟩
  obtain ⟨X, hX⟩ : ∃ X, X = w.alloc (.cells cs 58) := ⟨_, rfl⟩
  have hcX : Chg [] w X := by rw [hX]; exact (Chg.refl _ _).alloc _
  have hrX : X.row? Pb = some cs := by rw [hX]; exact row_alloc_at _ _ _ _ hPb
  have HRX : Hid (∀ W, Chg [] X W → W.cell? ⟨Pb, 33, none⟩ = some (.int .u32 (bias : Int))) := Lib.hid fun W hW => by rw [row_cell ((hW.row (row_lt hrX) (by simp)).trans hrX)]; exact hcs
  have HS : Hid (∀ W, Chg [] X W → SgsAt W b o S) := Lib.hid fun W hW => hS.keep (hcX.trans hW)
  have HCX := Lib.hid hcX
  have HSN := Lib.hid hSn
  have HP := Lib.hid hp
  have HLEN := Lib.hid hlen
  have HB := Lib.hid hb
  have HF := Lib.hid hf
  have HX := Lib.hid hX
  have HPB := Lib.hid hPb
  clear hS hSn hp hlen hcs hb hf hX hPb hcX hrX
  go_enter Try.func6, Try.ntmps6
  go_upto_region 1 with (fail)
  rw [← HX.out, ← HPB.out]
  clear HX
  go_wp2_with fail
  refine (fit_any X).mono ?_
  rintro e w1 ⟨rfl, hc1⟩
  have HC1 := Lib.hid hc1
  clear hc1
  go_wp2_with fail
  go_loopw [30, 7] (fun i v wr => ∃ (k T : Nat), k ≤ n ∧ i = .int .i64 (k : Int) ∧ v = .int .i64 (T : Int) ∧ T ≤ 3000 ∧ (0 < k → n ≤ 20) ∧ (∀ j, j < k → ∀ s, S[j]? = some s → s.sz ≤ 65536 ∧ s.len ≤ 3000) ∧ Chg [] X wr) (fun i _ _ => n - (intOf i).toNat)
  case atStart => exact ⟨0, 0, Nat.zero_le _, rfl, rfl, by omega, fun h => by omega, fun j hj => by omega, HC1.out⟩
  case round =>
    obtain ⟨k, T, hk, rfl, rfl, hT, hk20, hall, hch⟩ := hrel
    have HK := Lib.hid hk
    have HT := Lib.hid hT
    have HK20 := Lib.hid hk20
    have HALL := Lib.hid hall
    have HCH := Lib.hid hch
    clear hk hT hk20 hall hch
    by_cases hkn : k < n
    · have HKN := Lib.hid hkn
      have dI : (k : Int) < (n : Int) := by omega
      obtain ⟨s, hs⟩ : ∃ s, S[k]? = some s := ⟨_, List.getElem?_eq_getElem (by rw [HSN.out]; exact hkn)⟩
      obtain ⟨hsc, hso⟩ := HS.out _ HCH.out k s hs
      have hln := HLEN.out s (List.mem_of_getElem? hs)
      obtain rfl := HP.out (by omega)
      obtain ⟨T1, hT1⟩ : ∃ T1, T1 = 1 + s.len := ⟨_, rfl⟩
      obtain ⟨T2, hT2⟩ : ∃ T2, T2 = T + T1 := ⟨_, rfl⟩
      have W1 : Hid (wrap64 (1 + (s.len : Int)) = (T1 : Int)) := Lib.hid (by rw [IntWalk.wrap64_in _ ⟨by omega, by omega⟩]; omega)
      have W2 : Hid (wrap64 ((T : Int) + (T1 : Int)) = (T2 : Int)) := Lib.hid (by have := HT.out; rw [IntWalk.wrap64_in _ ⟨by omega, by omega⟩]; omega)
      have HW : Hid (wrap64 ((k : Int) + 1) = ((k + 1 : Nat) : Int)) := Lib.hid (by have h20 := HK20.out; rw [IntWalk.wrap64_in _ ⟨by omega, by omega⟩]; omega)
      obtain ⟨B, hB⟩ : ∃ b, b = wr.heap.size := ⟨_, rfl⟩
      obtain ⟨Z, hZ⟩ : ∃ Z, Z = wr.alloc (.cells (SgC s).toArray 60) := ⟨_, rfl⟩
      have hcZ : Chg [] wr Z := by rw [hZ]; exact (Chg.refl _ _).alloc _
      have hr1 : Z.row? B = some (SgC s).toArray := by rw [hZ]; exact row_alloc_at _ _ _ _ hB
      have D1 : Hid (Z.cell? ⟨B, 1, none⟩ = some (.slice s.ptr s.len s.cap)) := Lib.hid (by rw [row_cell hr1]; rfl)
      have D2 : Hid (Z.cell? ⟨B, 2, none⟩ = some (.int .u32 (s.sz : Int))) := Lib.hid (by rw [row_cell hr1]; rfl)
      have HCZ : Hid (Chg [] X Z) := Lib.hid (HCH.out.trans hcZ)
      have HSC := Lib.hid hsc
      have HS1 := Lib.hid hs
      have HZ := Lib.hid hZ
      have HB1 := Lib.hid hB
      have HT2 : Hid (T2 = T + (1 + s.len)) := Lib.hid (by omega)
      clear hs hsc hso hln hT1 hT2 hB hZ hcZ hr1 hkn
      go_upto_region 7 with (first | (refine wpList_load_part a60 (SgC s) rfl _ rfl rfl rfl HSC.out ?_) | (refine wpList_store_new a60 _ _ rfl rfl rfl rfl rfl rfl rfl rfl ?_))
      rw [← HZ.out, ← HB1.out]
      clear HZ HB1 dI
      have d1 := D1.out
      have w1' := W1.out
      have w2' := W2.out
      go_upto_region 8 with (fail)
      clear d1 w1' w2'
      have d2 := D2.out
      rcases Nat.lt_or_ge 3000 T2 with h1 | h1
      · have i1 : (3000 : Int) < (T2 : Int) := by omega
        have w3' := W2.out
        go_wp2
        go_ret
        exact ⟨rfl, HCX.out.trans HCZ.out⟩
      · have i1 : ¬ (3000 : Int) < (T2 : Int) := by omega
        have i1n : ¬ 3000 < T2 := by omega
        rcases Nat.lt_or_ge 65536 s.sz with h2 | h2
        · have i2 : (65536 : Int) < (s.sz : Int) := by omega
          have w3' := W2.out
          go_wp2
          go_ret
          exact ⟨rfl, HCX.out.trans HCZ.out⟩
        · have i2 : ¬ (65536 : Int) < (s.sz : Int) := by omega
          have i2n : ¬ 65536 < s.sz := by omega
          rcases Nat.lt_or_ge 20 n with h3 | h3
          · have i3 : (20 : Int) < (n : Int) := by omega
            have w3' := W2.out
            go_wp2
            go_ret
            exact ⟨rfl, HCX.out.trans HCZ.out⟩
          · have i3 : ¬ (20 : Int) < (n : Int) := by omega
            have i3n : ¬ 20 < n := by omega
            have HH : Hid (T2 ≤ 3000 ∧ s.sz ≤ 65536 ∧ n ≤ 20 ∧ s.len ≤ 3000) := Lib.hid ⟨h1, h2, h3, by have := HT2.out; omega⟩
            clear h1 h2 h3
            have w3' := W2.out
            go_wp2
            case roundEnd => exact ⟨⟨k + 1, T2, HKN.out, by rw [HW.out], by rw [W2.out], HH.out.1, fun _ => HH.out.2.2.1, fun j hj s' hs' => by
              by_cases e : j = k
              · subst e; rw [HS1.out] at hs'; obtain rfl := Option.some.inj hs'; exact ⟨HH.out.2.1, HH.out.2.2.2⟩
              · exact HALL.out j (by omega) s' hs', HCZ.out⟩, by rw [HW.out]; simp only [intOf, Int.toNat_natCast]; have := HKN.out; omega⟩
    · have dI : ¬ (k : Int) < (n : Int) := by omega
      have HN20 : Hid (n ≤ 20) := Lib.hid (by
        by_cases h0 : 0 < k
        · exact HK20.out h0
        · omega)
      have HA : Hid (∀ s ∈ S, s.sz ≤ 65536 ∧ s.len ≤ 3000) := Lib.hid fun s hs => by
        obtain ⟨j, hj, rfl⟩ := List.mem_iff_getElem.1 hs
        exact HALL.out j (by have := HSN.out; omega) _ (List.getElem?_eq_getElem hj)
      clear hkn
      go_wp2_with fail
      refine (new_ok wr).mono ?_
      rintro e w2 ⟨rfl, hw2⟩
      obtain ⟨mb, hmb⟩ : ∃ b, b = wr.heap.size := ⟨_, rfl⟩
      have HM2 : Hid (w2.row? mb = some (mem fun _ => 0)) := Lib.hid (by rw [hw2, hmb]; exact new_row wr)
      have HC2 : Hid (Chg [] X w2) := Lib.hid (by rw [hw2]; exact HCH.out.alloc _)
      have HMB : Hid (X.heap.size ≤ mb) := Lib.hid (by rw [hmb]; exact HCH.out.size)
      rw [← hmb]
      clear hw2 hmb
      obtain ⟨ab, hab⟩ : ∃ b, b = w2.heap.size := ⟨_, rfl⟩
      obtain ⟨Y, hY⟩ : ∃ Y, Y = w2.alloc (.cells (mem fun _ => 0) 5) := ⟨_, rfl⟩
      have HAY : Hid (Y.row? ab = some (mem (fillN fill 0))) := Lib.hid (by rw [hY, row_alloc_at _ _ _ _ hab]; exact congrArg some (mem_ext fun i _ => by unfold fillN; rw [if_neg (by omega)]))
      have HCY : Hid (Chg [] X Y) := Lib.hid (by rw [hY]; exact HC2.out.alloc _)
      have HMY : Hid (Y.row? mb = some (mem fun _ => 0)) := Lib.hid (by rw [hY, row_alloc_past _ _ _ (row_lt HM2.out)]; exact HM2.out)
      have HMA : Hid (mb < ab) := Lib.hid (by rw [hab]; exact row_lt HM2.out)
      have HAB := Lib.hid hab
      have HYY := Lib.hid hY
      clear hab hY
      have mk := mk_all
      go_upto_region 13 with (fail)
      rw [← HAB.out, ← HYY.out]
      clear mk HAB HYY
      go_wp2_with fail
      go_loopw [57] (fun i ws => ∃ k : Nat, k ≤ 65536 ∧ i = .int .i64 (k : Int) ∧ ws.row? ab = some (mem (fillN fill k)) ∧ Chg [ab] Y ws) (fun i _ => 65536 - (intOf i).toNat)
      case atStart => exact ⟨0, Nat.zero_le _, rfl, HAY.out, Chg.refl _ _⟩
      case round =>
        obtain ⟨k2, hk2, rfl, hrow, hch2⟩ := hrel
        have HK2 := Lib.hid hk2
        have HROW := Lib.hid hrow
        have HCH2 := Lib.hid hch2
        clear hk2 hrow hch2
        by_cases hkn : k2 < 65536
        · have HKN := Lib.hid hkn
          have dI : (k2 : Int) < 65536 := by omega
          have cA : wr.cell? ⟨ab, k2, none⟩ = some (.int .u8 (fillN fill k2 k2 : Int)) := mem_row HROW.out k2 hkn
          have fA : wr.frozen? ⟨ab, k2, none⟩ = false := row_free HROW.out _
          have HR2 : Hid ((wr.setCell ⟨ab, k2, none⟩ (.int .u8 (fill : Int))).row? ab = some (mem (fillN fill (k2 + 1)))) := Lib.hid (by rw [row_setCell_same, HROW.out]; show some ((mem (fillN fill k2)).setIfInBounds k2 (.int .u8 (fill : Int))) = _; rw [mem_set, fillN_succ])
          have HC3 : Hid (Chg [ab] Y (wr.setCell ⟨ab, k2, none⟩ (.int .u8 (fill : Int)))) := Lib.hid (HCH2.out.setCell (.inl (by simp)) _)
          clear hkn
          go_wp2
          case roundEnd => exact ⟨⟨k2 + 1, HKN.out, by rw [Int.natCast_add]; rfl, HR2.out, HC3.out⟩, by have := HKN.out; simp only [intOf]; omega⟩
        · have dI : ¬ (k2 : Int) < 65536 := by omega
          obtain rfl : k2 = 65536 := by have := HK2.out; omega
          clear hkn
          go_wp2_with fail
          have HMW : Hid (wr.row? mb = some (mem fun _ => 0)) := Lib.hid ((HCH2.out.row (row_lt HMY.out) (by have := HMA.out; simp; omega)).trans HMY.out)
          refine (put_ok (fun _ => 0) (fun _ => fill) 2147483648 0 65536 mb ab 0 65536 rfl (by decide) (by decide) wr HMW.out (fun jx hj => by rw [Nat.zero_add, mem_row HROW.out jx hj]; unfold fillN; rw [if_pos hj])).mono ?_
          rintro e w5 ⟨rfl, hr5, hc5⟩
          rw [put_all] at hr5
          have HM5 := Lib.hid hr5
          have HA5 : Hid (w5.row? ab = some (mem fun _ => fill)) := Lib.hid (by rw [(hc5.row (row_lt HROW.out) (by have := HMA.out; simp; omega)).trans HROW.out, fill_all])
          have HC5 : Hid (Chg [] X w5) := Lib.hid (by
            have h1 := HCY.out
            have h2 := HCH2.out
            have hm := HMB.out
            have ha := HMA.out
            exact ⟨hc5.os.trans (h2.os.trans h1.os), hc5.tape.trans (h2.tape.trans h1.tape), hc5.output.trans (h2.output.trans h1.output), Nat.le_trans h1.size (Nat.le_trans h2.size hc5.size), fun i hi _ => (hc5.block i (Nat.lt_of_lt_of_le hi (Nat.le_trans h1.size h2.size)) (by simp; omega)).trans ((h2.block i (Nat.lt_of_lt_of_le hi h1.size) (by simp; omega)).trans (h1.block i hi (by simp)))⟩)
          clear hr5 hc5
          go_wp2_with fail
          go_loopw [70, 13, 14] (fun i v okv wq => ∃ k : Nat, k ≤ n ∧ i = .int .i64 (k : Int) ∧ wq.ownsRow w5.heap.size 63 3 v k (flS bias (S.take k)) ∧ okv = .bool (okN bias (S.take k)) ∧ Chg [] w5 wq) (fun i _ _ _ => n - (intOf i).toNat)
          case atStart => exact ⟨0, Nat.zero_le _, rfl, World.ownsRow_nil _ _ _ _, rfl, Chg.refl _ _⟩
          case round =>
            obtain ⟨k3, hk3, rfl, how, rfl, hch3⟩ := hrel
            have HK3 := Lib.hid hk3
            have HOW := Lib.hid how
            have HCH3 := Lib.hid hch3
            clear hk3 how hch3
            by_cases hkn : k3 < n
            · have HKN := Lib.hid hkn
              have dI : (k3 : Int) < (n : Int) := by omega
              obtain ⟨s, hs⟩ : ∃ s, S[k3]? = some s := ⟨_, List.getElem?_eq_getElem (by rw [HSN.out]; exact hkn)⟩
              obtain ⟨hsc, hso⟩ := HS.out _ (HC5.out.trans HCH3.out) k3 s hs
              obtain rfl := HP.out (by omega)
              have HTK := Lib.hid (take_succ' hs)
              obtain ⟨at_, hat⟩ : ∃ a, a = (bias + s.ad) % 4294967296 := ⟨_, rfl⟩
              have W1 := Lib.hid (addw_wrap hat)
              have hatl : at_ < 8589934592 := by omega
              have hszl : s.sz < 8589934592 := by have := hso.sz; omega
              have W2 := Lib.hid (w64id at_ hatl)
              have W3 := Lib.hid (w64id s.sz hszl)
              have HHAS := Lib.hid (rhas_any at_ s.sz hatl hszl)
              have HSPO : Hid (spOf bias s = ⟨at_, s.sz, s.rt⟩) := Lib.hid (by unfold spOf; rw [← hat])
              have HW : Hid (wrap64 ((k3 : Int) + 1) = ((k3 + 1 : Nat) : Int)) := Lib.hid (wrap1 k3 (by have := HN20.out; omega))
              obtain ⟨B, hB⟩ : ∃ b, b = wr.heap.size := ⟨_, rfl⟩
              obtain ⟨Z, hZ⟩ : ∃ Z, Z = wr.alloc (.cells (SgC s).toArray 60) := ⟨_, rfl⟩
              have hcZ : Chg [] wr Z := by rw [hZ]; exact (Chg.refl _ _).alloc _
              have hr1 : Z.row? B = some (SgC s).toArray := by rw [hZ]; exact row_alloc_at _ _ _ _ hB
              have HCZ : Hid (Chg [] w5 Z) := Lib.hid (HCH3.out.trans hcZ)
              have HRZ : Hid (∀ W, Chg [] Z W → W.row? B = some (SgC s).toArray) := Lib.hid fun W hW => (hW.row (row_lt hr1) (by simp)).trans hr1
              obtain ⟨pv, pc, rfl, -⟩ := own_form HOW.out
              have HOZ := Lib.hid (ownsRow_chg HOW.out hcZ (by intro x _; simp))
              have HSC := Lib.hid hsc
              have HZ := Lib.hid hZ
              have HB1 := Lib.hid hB
              have HBE : Hid (wr.heap.size ≤ B) := Lib.hid (Nat.le_of_eq hB.symm)
              clear hs hsc hso hat hatl hszl hB hZ hcZ hr1 hkn
              go_upto_region 24 with (first | (refine wpList_load_part a60 (SgC s) rfl _ rfl rfl rfl HSC.out ?_) | (refine wpList_store_new a60 _ _ rfl rfl rfl rfl rfl rfl rfl rfl ?_))
              rw [← HZ.out, ← HB1.out]
              clear HZ HB1 dI
              have d0 : Z.cell? ⟨B, 0, none⟩ = some (.int .u32 (s.ad : Int)) := by rw [row_cell (HRZ.out Z (Chg.refl _ _))]; rfl
              have d2 : Z.cell? ⟨B, 2, none⟩ = some (.int .u32 (s.sz : Int)) := by rw [row_cell (HRZ.out Z (Chg.refl _ _))]; rfl
              have d3 : Z.cell? ⟨B, 3, none⟩ = some (.int .i64 s.rt) := by rw [row_cell (HRZ.out Z (Chg.refl _ _))]; rfl
              have dB : Z.cell? ⟨Pb, 33, none⟩ = some (.int .u32 (bias : Int)) := HRX.out _ (HC5.out.trans HCZ.out)
              have w1' := W1.out
              obtain ⟨X2, hX2⟩ : ∃ X, X = Z.alloc (.cells #[.int .u32 (at_ : Int), .int .u32 (s.sz : Int), .int .i64 s.rt] 63) := ⟨_, rfl⟩
              obtain ⟨B2, hB2⟩ : ∃ b, b = Z.heap.size := ⟨_, rfl⟩
              have hcX2 : Chg [] Z X2 := by rw [hX2]; exact (Chg.refl _ _).alloc _
              have HCX2 : Hid (Chg [] w5 X2) := Lib.hid (HCZ.out.trans hcX2)
              have HR2 : Hid (X2.row? B2 = some #[.int .u32 (at_ : Int), .int .u32 (s.sz : Int), .int .i64 s.rt]) := Lib.hid (by rw [hX2]; exact row_alloc_at _ _ _ _ hB2)
              have HOX := Lib.hid (ownsRow_chg HOZ.out hcX2 (by intro x _; simp))
              have HZX := Lib.hid hcX2
              have HX2 := Lib.hid hX2
              have HB2 := Lib.hid hB2
              clear hX2 hB2 hcX2
              obtain ⟨i0, hi0, hz0, hz1, hz2⟩ := info_parts info63
              go_wp2_with (at_builtin; rw [← HB2.out, ← HX2.out]; refine wpList_append_own _ rfl _ _ 61 rfl w5.heap.size 63 i0 (.agg #[.int .u32 0, .int .u32 0, .int .i64 0]) 3 16 Try.underlying61 hi0 hz0 hz1 hz2 rfl (by decide) (.slice pv k3 pc) k3 (flS bias (S.take k3)) rfl HOX.out ⟨B2, 0, none⟩ 1 1 (SpC ⟨at_, s.sz, s.rt⟩) rfl rfl (fun jx u hu => by rw [addr_add, Nat.zero_add, row_cell HR2.out]; simpa [SpC] using hu) (fun u hu => spc_one [⟨at_, s.sz, s.rt⟩] u (by simpa using hu)) (by have := HKN.out; have := HN20.out; unfold maxLen; omega) (by have := HKN.out; have := HN20.out; omega) HCX2.out.size ?_)
              intro v' w6 hx1 hx2 _
              have HC6 : Hid (Chg [] w5 w6) := Lib.hid (chg_grown HCX2.out hx2 (fun x hx => (HOX.out.lt x hx).1))
              have HO6 : Hid (w6.ownsRow w5.heap.size 63 3 v' (k3 + 1) (flS bias (S.take (k3 + 1)))) := Lib.hid (by rw [HTK.out, flS_snoc, HSPO.out]; exact hx1)
              have HBN : Hid (some B ≠ (Value.slice pv k3 pc).ownBlock) := Lib.hid (by
                intro h
                have h1 := (HOW.out.lt B h.symm).2
                have h2 := HRZ.out Z (Chg.refl _ _)
                have h3 := HBE.out
                omega)
              have hrB : X2.row? B = some (SgC s).toArray := HRZ.out _ HZX.out
              have D1 : Hid (w6.cell? ⟨B, 1, none⟩ = some (.slice s.ptr s.len s.cap)) := Lib.hid (by rw [hx2.cell_far ⟨B, 1, none⟩ (row_lt hrB) HBN.out, row_cell hrB]; rfl)
              have D2 : Hid (w6.cell? ⟨B, 2, none⟩ = some (.int .u32 (s.sz : Int))) := Lib.hid (by rw [hx2.cell_far ⟨B, 2, none⟩ (row_lt hrB) HBN.out, row_cell hrB]; rfl)
              clear hx1 hx2 hrB d0 d2 d3 dB w1' hi0 hz0 hz1 hz2
              have HOKS : Hid (okN bias (S.take (k3 + 1)) = (okN bias (S.take k3) && fitS s ⟨at_, s.sz, s.rt⟩)) := Lib.hid (by rw [HTK.out, okN_snoc, HSPO.out])
              have HFIT : Hid (fitS s ⟨at_, s.sz, s.rt⟩ = (decide (s.len ≤ s.sz) && inRam at_ s.sz)) := Lib.hid (by unfold fitS; simp)
              obtain ⟨ob, hob⟩ : ∃ x, x = okN bias (S.take k3) := ⟨_, rfl⟩
              rw [← hob] at HOKS ⊢
              clear hob
              go_upto_region 26 with (fail)
              cases ob with
              | false =>
                have HOK2 : Hid (okN bias (S.take (k3 + 1)) = false) := Lib.hid (by rw [HOKS.out]; rfl)
                go_wp2
                case roundEnd => exact ⟨⟨k3 + 1, HKN.out, by rw [HW.out], HO6.out, by rw [HOK2.out], HC6.out⟩, by rw [HW.out]; simp only [intOf, Int.toNat_natCast]; have := HKN.out; omega⟩
              | true =>
                by_cases hl : s.len ≤ s.sz
                · have i1 : (s.len : Int) ≤ (s.sz : Int) := by omega
                  have HOK2 : Hid (okN bias (S.take (k3 + 1)) = inRam at_ s.sz) := Lib.hid (by rw [HOKS.out, HFIT.out, decide_eq_true hl]; rfl)
                  have d1 := D1.out
                  have d2 := D2.out
                  have w2' := W2.out
                  have w3' := W3.out
                  go_wp2_with fail
                  refine (HHAS.out w6).mono ?_
                  rintro e w' ⟨rfl, hw⟩
                  obtain rfl := hw.symm
                  clear hw
                  rw [← HOK2.out]
                  go_wp2
                  case roundEnd => exact ⟨⟨k3 + 1, HKN.out, by rw [HW.out], HO6.out, rfl, HC6.out⟩, by rw [HW.out]; simp only [intOf, Int.toNat_natCast]; have := HKN.out; omega⟩
                · have i1 : ¬ (s.len : Int) ≤ (s.sz : Int) := by omega
                  have HOK2 : Hid (okN bias (S.take (k3 + 1)) = false) := Lib.hid (by rw [HOKS.out, HFIT.out, decide_eq_false hl]; rfl)
                  have d1 := D1.out
                  have d2 := D2.out
                  have w3' := W3.out
                  go_wp2
                  case roundEnd => exact ⟨⟨k3 + 1, HKN.out, by rw [HW.out], HO6.out, by rw [HOK2.out], HC6.out⟩, by rw [HW.out]; simp only [intOf, Int.toNat_natCast]; have := HKN.out; omega⟩
            · have dI : ¬ (k3 : Int) < (n : Int) := by omega
              have hkk : k3 = n := by have := HK3.out; omega
              have htk : S.take k3 = S := List.take_of_length_le (by have := HSN.out; omega)
              have how := HOW.out
              rw [htk] at how
              obtain ⟨ob, hob⟩ : ∃ x, x = okN bias S := ⟨_, rfl⟩
              rw [htk, ← hob]
              have HOW2 := Lib.hid how
              have HOB := Lib.hid hob
              subst hkk
              clear how hob htk hkn HOW HK3
              obtain ⟨pv, pc, rfl, hpv⟩ := own_form HOW2.out
              have HPV := Lib.hid hpv
              clear hpv
              go_wp2_with fail
              obtain ⟨P, hP⟩ : ∃ P, P = S.map (spOf bias) := ⟨_, rfl⟩
              have hw5 : mb < w5.heap.size := row_lt HM5.out
              obtain ⟨pb, hpb1, hpb2, hpb3⟩ : ∃ g, (0 < k3 → pv = some ⟨g, 0, none⟩) ∧ (SpsAt wr g 0 P) ∧ (w5.heap.size ≤ g) := by
                by_cases h0 : 0 < k3
                · obtain ⟨g, hg, hob⟩ := HPV.out h0
                  refine ⟨g, fun _ => hg, fun jx r hj => ?_, (HOW2.out.lt g hob).1⟩
                  rw [hP] at hj
                  refine ⟨fun i u hu => ?_, ?_⟩
                  · rw [Nat.zero_add]
                    refine cellsAt HOW2.out hob (jx * 3 + i) u ?_
                    exact flat_get 3 SpC (fun _ => rfl) _ jx r i u hj hu
                  · rw [List.getElem?_map] at hj
                    cases hq : S[jx]? with
                    | none => rw [hq] at hj; cases hj
                    | some s =>
                      rw [hq] at hj
                      obtain rfl := Option.some.inj hj
                      exact ⟨Nat.mod_lt _ (by decide), ((HS.out _ (HC5.out.trans HCH3.out)) jx s hq).2.sz⟩
                · refine ⟨w5.heap.size, fun h => absurd h h0, fun jx r hj => ?_, Nat.le_refl _⟩
                  have : S = [] := List.eq_nil_of_length_eq_zero (by have := HSN.out; omega)
                  rw [hP, this] at hj
                  simp at hj
              have HPN : Hid (P.length = k3) := Lib.hid (by rw [hP, List.length_map]; exact HSN.out)
              have HXC : Hid (Chg [] X wr) := Lib.hid (HC5.out.trans HCH3.out)
              have HLE : Hid (loadN S P (fun _ => fill) = if ob then (0, ldF 2147483648 S P (fun _ => fill)) else (18, fun _ => fill)) := Lib.hid (by rw [hP, load_ok', HOB.out])
              have HPB1 := Lib.hid hpb1
              have HPB2 := Lib.hid hpb2
              have HPB3 := Lib.hid hpb3
              have HMB5 := Lib.hid hw5
              have HPE := Lib.hid hP
              have HMW : Hid (wr.row? mb = some (mem fun _ => fill)) := Lib.hid ((HCH3.out.row (row_lt HM5.out) (by simp)).trans HM5.out)
              have HAW : Hid (wr.row? ab = some (mem fun _ => fill)) := Lib.hid ((HCH3.out.row (row_lt HA5.out) (by simp)).trans HA5.out)
              clear hP hpb1 hpb2 hpb3 hw5
              refine (pload_any (p := p) (c := c) (q := pv) (pc := pc) HMW.out (fun W hW => HS.out W (transM HXC.out hW HMB.out)) HSN.out HP.out (by have := HN20.out; omega) (fun s hs => ⟨(HA.out s hs).1, by have := (HA.out s hs).2; omega⟩) HPB2.out HPN.out HPB1.out (by have := HPB3.out; have := HMB5.out; omega) (by have := HN20.out; omega)).mono ?_
              rintro e w8 ⟨rfl, hr8, hc8⟩
              rw [HLE.out] at hr8 ⊢
              have HC8 := Lib.hid hc8
              have HX8 := Lib.hid (transM HXC.out hc8 HMB.out)
              have HA8 : Hid (w8.row? ab = some (mem fun _ => fill)) := Lib.hid ((hc8.row (row_lt HAW.out) (by have := HMA.out; simp; omega)).trans HAW.out)
              have HP8 : Hid (SpsAt w8 pb 0 P) := Lib.hid (HPB2.out.keep hc8 (by have := HPB3.out; have := HMB5.out; simp; omega))
              clear hc8
              obtain ⟨F, hF⟩ : ∃ F, F = (if ob then ldF 2147483648 S P (fun _ => fill) else (fun _ => fill)) := ⟨_, rfl⟩
              have HM8 : Hid (w8.row? mb = some (mem F)) := Lib.hid (by rw [hr8, hF]; cases ob <;> rfl)
              have HFE := Lib.hid hF
              clear hr8 hF
              have HAB5 : Hid (ab < w5.heap.size) := Lib.hid (row_lt HA5.out)
              have HO8 : Hid (w8.ownsRow w5.heap.size 63 3 (.slice pv k3 pc) k3 (flS bias S)) := Lib.hid (ownsRow_chg HOW2.out HC8.out (by intro x hx; have h1 := (HOW2.out.lt x hx).1; have h2 := HMB5.out; simp; omega))
              have HSZ8 : Hid (w5.heap.size ≤ w8.heap.size) := Lib.hid (Nat.le_trans HCH3.out.size HC8.out.size)
              cases ob with
              | false =>
                have HFF : Hid (F = fun _ => fill) := Lib.hid (by rw [HFE.out]; rfl)
                have HA8F : Hid (w8.row? ab = some (mem F)) := Lib.hid (by rw [HFF.out]; exact HA8.out)
                go_wp2_with fail
                refine (get_ok F 2147483648 0 65536 mb rfl (by decide) w8 HM8.out).mono ?_
                rintro e w11 ⟨vg, rfl, howg, hc11⟩
                obtain ⟨qg, cg, rfl, hqg⟩ := own_form howg
                obtain ⟨gg, rfl, hgg⟩ := hqg (by decide)
                have HOG := Lib.hid howg
                have HGG := Lib.hid hgg
                have HX11 := Lib.hid (HX8.out.trans hc11)
                have HC11L := Lib.hid hc11
                have HA11 : Hid (w11.row? ab = some (mem F)) := Lib.hid ((hc11.row (row_lt HA8F.out) (by simp)).trans HA8F.out)
                have HO11 := Lib.hid (ownsRow_chg HO8.out hc11 (by intro x _; simp))
                have HGX : Hid (w8.heap.size ≤ gg) := Lib.hid (howg.lt gg hgg).1
                clear howg hgg hc11 hqg
                obtain ⟨X2, hX2⟩ : ∃ X, X = w11.alloc (.cells #[.int .u32 0, .int .u32 0, .int .i64 0] 63) := ⟨_, rfl⟩
                obtain ⟨B2, hB2⟩ : ∃ b, b = w11.heap.size := ⟨_, rfl⟩
                have hcX2 : Chg [] w11 X2 := by rw [hX2]; exact (Chg.refl _ _).alloc _
                have HR2 : Hid (X2.row? B2 = some #[.int .u32 0, .int .u32 0, .int .i64 0]) := Lib.hid (by rw [hX2]; exact row_alloc_at _ _ _ _ hB2)
                have HOX := Lib.hid (ownsRow_chg HO11.out hcX2 (by intro x _; simp))
                have HX12 := Lib.hid (HX11.out.trans hcX2)
                have HX12L : Hid (Chg [] w8 X2) := Lib.hid (HC11L.out.trans hcX2)
                have HOG2 := Lib.hid (ownsRow_chg HOG.out hcX2 (by intro x _; simp))
                have HA12 : Hid (X2.row? ab = some (mem F)) := Lib.hid ((hcX2.row (row_lt HA11.out) (by simp)).trans HA11.out)
                have HX2 := Lib.hid hX2
                have HB2 := Lib.hid hB2
                clear hX2 hB2 hcX2
                obtain ⟨i0, hi0, hz0, hz1, hz2⟩ := info_parts info63
                go_wp2_with (at_builtin; rw [← HB2.out, ← HX2.out]; refine wpList_append_own _ rfl _ _ 61 rfl w5.heap.size 63 i0 (.agg #[.int .u32 0, .int .u32 0, .int .i64 0]) 3 16 Try.underlying61 hi0 hz0 hz1 hz2 rfl (by decide) (.slice pv k3 pc) k3 (flS bias S) rfl HOX.out ⟨B2, 0, none⟩ 1 1 (SpC ⟨0, 0, 0⟩) rfl rfl (fun jx u hu => by rw [addr_add, Nat.zero_add, row_cell HR2.out]; simpa [SpC] using hu) (fun u hu => spc_one [⟨0, 0, 0⟩] u (by simpa using hu)) (by have := HN20.out; unfold maxLen; omega) (by have := HN20.out; omega) (Nat.le_trans HSZ8.out HX12L.out.size) ?_)
                intro v' w12 hx1 hx2 _
                obtain ⟨pv2, pc2, rfl, -⟩ := own_form hx1
                have HX13 : Hid (Chg [] X w12) := Lib.hid (chg_grown HX12.out hx2 (fun x hx => Nat.le_trans HC5.out.size (HOX.out.lt x hx).1))
                have HCA : Hid (∀ W, Chg [] w12 W → ∀ i, i < 65536 → W.cell? ⟨ab, i, none⟩ = some (.int .u8 (F i : Int))) := Lib.hid fun W hW i hi => by
                  refine cell_keep ?_ hW (by simp)
                  rw [hx2.cell_far ⟨ab, i, none⟩ (row_lt HA12.out) (fun h => by have h1 := (HOX.out.lt ab h.symm).1; have h2 := HAB5.out; omega)]
                  exact mem_row HA12.out i hi
                have HCG : Hid (∀ W, Chg [] w12 W → ∀ i, i < 65536 → W.cell? ⟨gg, i, none⟩ = some (.int .u8 (F i : Int))) := Lib.hid fun W hW i hi => by
                  refine cell_keep ?_ hW (by simp)
                  rw [hx2.cell_far ⟨gg, i, none⟩ (HOG2.out.lt gg HGG.out).2 (fun h => by have h1 := (HO8.out.lt gg h.symm).2; have h2 := HGX.out; omega)]
                  refine cellsAt HOG2.out HGG.out i _ ?_
                  unfold u8L
                  rw [List.getElem?_map, gtL_get F 0 65536 i hi, Nat.zero_add]
                  rfl
                clear hx1 hx2 hi0 hz0 hz1 hz2
                go_wp2_with fail
                refine (pload_ne (p := p) (c := c) (show k3 ≠ k3 + 1 by omega)).mono ?_
                rintro e w13 ⟨rfl, hc13⟩
                have HX14 := Lib.hid (HX13.out.trans hc13)
                obtain ⟨xs, hxs⟩ : ∃ x, x = strOfNums ((List.range 65536).map fun i => (F i : Int)) := ⟨_, rfl⟩
                have HV1 : Hid ((convert 35 9 (.slice (some ⟨gg, 0, none⟩) 65536 cg)).run Try.prog w13 = .ok (.string xs) w13) := Lib.hid (by rw [hxs]; exact conv_all (HCG.out _ hc13))
                have HV2 : Hid ((convert 35 9 (.slice (some ⟨ab, 0, none⟩) 65536 65536)).run Try.prog w13 = .ok (.string xs) w13) := Lib.hid (by rw [hxs]; exact conv_all (HCA.out _ hc13))
                clear hxs hc13
                have cv1 := HV1.out
                have cv2 := HV2.out
                go_wp2
                go_ret
                exact ⟨rfl, HCX.out.trans HX14.out⟩
              | true =>
                have HFF : Hid (ldF 2147483648 S P (fun _ => fill) = F) := Lib.hid (by rw [HFE.out]; rfl)
                have HOKT : Hid (∀ s ∈ S, fitS s (spOf bias s) = true) := Lib.hid fun s hs => by
                  have h := HOB.out.symm
                  unfold okN at h
                  rw [List.all_eq_true] at h
                  exact h s hs
                go_wp2_with fail
                go_loopw [115] (fun i ws => ∃ (k : Nat) (g : Nat → Nat), k ≤ k3 ∧ i = .int .i64 (k : Int) ∧ ws.row? ab = some (mem g) ∧ ldF 2147483648 (S.drop k) (P.drop k) g = F ∧ Chg [ab] w8 ws) (fun i _ => k3 - (intOf i).toNat)
                case atStart => exact ⟨0, fun _ => fill, Nat.zero_le _, rfl, HA8.out, HFF.out, Chg.refl _ _⟩
                case round =>
                  obtain ⟨k4, g, hk4, rfl, hrow, hld, hch4⟩ := hrel
                  have HK4 := Lib.hid hk4
                  have HROW4 := Lib.hid hrow
                  have HLD := Lib.hid hld
                  have HCH4 := Lib.hid hch4
                  have HXM : Hid (X.heap.size ≤ ab) := Lib.hid (Nat.le_of_lt (Nat.lt_of_le_of_lt HMB.out HMA.out))
                  have HX4 := Lib.hid (transM HX8.out hch4 HXM.out)
                  clear hk4 hrow hld hch4
                  by_cases hkn : k4 < k3
                  · have HKN := Lib.hid hkn
                    have dI : (k4 : Int) < (k3 : Int) := by omega
                    obtain ⟨s, hs⟩ : ∃ s, S[k4]? = some s := ⟨_, List.getElem?_eq_getElem (by rw [HSN.out]; exact hkn)⟩
                    have hr : P[k4]? = some (spOf bias s) := by rw [HPE.out, List.getElem?_map, hs]; rfl
                    obtain ⟨r, hre⟩ : ∃ r, r = spOf bias s := ⟨_, rfl⟩
                    have hfit := HOKT.out s (List.mem_of_getElem? hs)
                    rw [← hre] at hr hfit
                    obtain ⟨hsc, hso⟩ := HS.out _ HX4.out k4 s hs
                    obtain ⟨hpc, hpl, hpz⟩ := HP8.out k4 r hr
                    obtain ⟨f1, f2, f3, f4⟩ := fitS_true hfit
                    have hsz := (HA.out s (List.mem_of_getElem? hs)).1
                    obtain ⟨oo, hoo⟩ : ∃ o', o' = r.st - 2147483648 := ⟨_, rfl⟩
                    have HLN : Hid (ldF 2147483648 (S.drop (k4 + 1)) (P.drop (k4 + 1)) (putN g oo (segB s) s.sz) = F) := Lib.hid (by rw [hoo, ← ld_drop 2147483648 S P k4 s r g hs hr]; exact HLD.out)
                    have HST : Hid (r.st = 2147483648 + oo) := Lib.hid (by omega)
                    have HOO : Hid (oo + s.sz ≤ 65536) := Lib.hid (by omega)
                    obtain rfl := HP.out (by omega)
                    obtain rfl := HPB1.out (by omega)
                    have HSTC : Hid (∀ W, Chg [ab] w8 W → W.cell? ⟨pb, k4 * 3, none⟩ = some (.int .u32 (r.st : Int))) := Lib.hid fun W hW => by
                      have h1 := hpc 0 _ rfl
                      rw [Nat.zero_add] at h1
                      exact cell_keep h1 hW (by have h2 := HPB3.out; have h3 := HAB5.out; simp; omega)
                    have HW : Hid (wrap64 ((k4 : Int) + 1) = ((k4 + 1 : Nat) : Int)) := Lib.hid (wrap1 k4 (by have := HN20.out; omega))
                    have szl : s.sz < 8589934592 := by omega
                    have HSZW := Lib.hid (w64id s.sz szl)
                    have stl : r.st < 8589934592 := by omega
                    have HSTW := Lib.hid (w64id r.st stl)
                    have HSUB : Hid (wrap64 ((r.st : Int) - 2147483648) = (oo : Int)) := Lib.hid (by rw [IntWalk.wrap64_in _ ⟨by omega, by omega⟩]; omega)
                    have HSZL : Hid (s.sz ≤ 65536) := Lib.hid hsz
                    have HSOX : Hid (∀ W, Chg [] X W → SgOk W s) := Lib.hid fun W hW => (HS.out W hW k4 s hs).2
                    obtain ⟨B, hB⟩ : ∃ b, b = wr.heap.size := ⟨_, rfl⟩
                    obtain ⟨Z, hZ⟩ : ∃ Z, Z = wr.alloc (.cells (SgC s).toArray 60) := ⟨_, rfl⟩
                    have hcZ : Chg [] wr Z := by rw [hZ]; exact (Chg.refl _ _).alloc _
                    have hr1 : Z.row? B = some (SgC s).toArray := by rw [hZ]; exact row_alloc_at _ _ _ _ hB
                    have HBA : Hid (ab < B) := Lib.hid (by rw [hB]; exact row_lt HROW4.out)
                    have HCZ : Hid (Chg [ab] w8 Z) := Lib.hid (HCH4.out.trans (chg_any hcZ))
                    have HRZ : Hid (∀ W, Chg [ab] Z W → W.row? B = some (SgC s).toArray) := Lib.hid fun W hW => (hW.row (row_lt hr1) (by have := HBA.out; simp; omega)).trans hr1
                    have HRA : Hid (Z.row? ab = some (mem (putN g oo (segB s) 0))) := Lib.hid (by rw [putN_none]; exact (hcZ.row (row_lt HROW4.out) (by simp)).trans HROW4.out)
                    have HSC := Lib.hid hsc
                    have HZ := Lib.hid hZ
                    have HB1 := Lib.hid hB
                    clear hs hr hre hfit hsc hso hpc hpl hpz f1 f2 f3 f4 hsz hoo szl stl hB hZ hcZ hr1 hkn
                    go_upto_region 33 with (first | (refine wpList_load_part a60 (SgC s) rfl _ rfl rfl rfl HSC.out ?_) | (refine wpList_store_new a60 _ _ rfl rfl rfl rfl rfl rfl rfl rfl ?_))
                    rw [← HZ.out, ← HB1.out]
                    clear HZ HB1 dI
                    have d2 : Z.cell? ⟨B, 2, none⟩ = some (.int .u32 (s.sz : Int)) := by rw [row_cell (HRZ.out Z (Chg.refl _ _))]; rfl
                    have szw := HSZW.out
                    go_wp2_with fail
                    clear d2 szw
                    go_loopw [123] (fun i wt => ∃ m : Nat, m ≤ s.sz ∧ i = .int .i64 (m : Int) ∧ wt.row? ab = some (mem (putN g oo (segB s) m)) ∧ Chg [ab] Z wt) (fun i _ => s.sz - (intOf i).toNat)
                    case atStart => exact ⟨0, Nat.zero_le _, rfl, HRA.out, Chg.refl _ _⟩
                    case round =>
                      obtain ⟨m, hm, rfl, hrow, hch5⟩ := hrel
                      have HMM := Lib.hid hm
                      have HROW5 := Lib.hid hrow
                      have HCH5 := Lib.hid hch5
                      clear hm hrow hch5
                      by_cases hmn : m < s.sz
                      · have HMN := Lib.hid hmn
                        have dI : (m : Int) < (s.sz : Int) := by omega
                        have dK : (k4 : Int) < (k3 : Int) := by have := HKN.out; omega
                        have d1 : wr.cell? ⟨B, 1, none⟩ = some (.slice s.ptr s.len s.cap) := by rw [row_cell (HRZ.out wr HCH5.out)]; rfl
                        have ds : wr.cell? ⟨pb, k4 * 3, none⟩ = some (.int .u32 (r.st : Int)) := HSTC.out wr (HCZ.out.trans HCH5.out)
                        obtain ⟨om, hom⟩ : ∃ x, x = oo + m := ⟨_, rfl⟩
                        have HOM : Hid (wrap64 ((oo : Int) + (m : Int)) = (om : Int)) := Lib.hid (by have := HOO.out; rw [IntWalk.wrap64_in _ ⟨by omega, by omega⟩]; omega)
                        have omI : (om : Int) < 65536 := by have := HOO.out; omega
                        have omN : om < 65536 := by have := HOO.out; omega
                        have cA : wr.cell? ⟨ab, om, none⟩ = some (.int .u8 (putN g oo (segB s) m om : Int)) := mem_row HROW5.out om omN
                        have fA : wr.frozen? ⟨ab, om, none⟩ = false := row_free HROW5.out _
                        obtain ⟨cv, hcv⟩ : ∃ x, x = segB s m := ⟨_, rfl⟩
                        have HR6 : Hid ((wr.setCell ⟨ab, om, none⟩ (.int .u8 (cv : Int))).row? ab = some (mem (putN g oo (segB s) (m + 1)))) := Lib.hid (by rw [row_setCell_same, HROW5.out]; show some ((mem (putN g oo (segB s) m)).setIfInBounds om (.int .u8 (cv : Int))) = _; rw [mem_set, hom, hcv, putN_succ])
                        have HC6 : Hid (Chg [ab] Z (wr.setCell ⟨ab, om, none⟩ (.int .u8 (cv : Int)))) := Lib.hid (HCH5.out.setCell (.inl (by simp)) _)
                        have HW5 : Hid (wrap64 ((m : Int) + 1) = ((m + 1 : Nat) : Int)) := Lib.hid (wrap1 m (by have := HSZL.out; omega))
                        have hxw := transM HX8.out (HCZ.out.trans HCH5.out) HXM.out
                        by_cases hml : m < s.len
                        · have hce : s.g m = cv := by rw [hcv]; unfold segB; rw [if_pos hml]
                          have hok := HSOX.out wr hxw
                          rw [hok.ptr (by omega)] at d1
                          have dc := hok.cells m hml
                          rw [hce] at dc
                          have lI : (m : Int) < (s.len : Int) := by omega
                          clear hcv hce hok hxw hom hmn omN
                          have sw := HSTW.out
                          have sb := HSUB.out
                          have so := HOM.out
                          go_wp2
                          case roundEnd => exact ⟨⟨m + 1, HMN.out, by rw [HW5.out], HR6.out, HC6.out⟩, by rw [HW5.out]; simp only [intOf, Int.toNat_natCast]; have := HMN.out; omega⟩
                        · have hce : cv = 0 := by rw [hcv]; unfold segB; rw [if_neg hml]
                          subst hce
                          have lI : ¬ (m : Int) < (s.len : Int) := by omega
                          clear hcv hxw hom hmn omN
                          have sw := HSTW.out
                          have sb := HSUB.out
                          have so := HOM.out
                          go_wp2
                          case roundEnd => exact ⟨⟨m + 1, HMN.out, by rw [HW5.out], HR6.out, HC6.out⟩, by rw [HW5.out]; simp only [intOf, Int.toNat_natCast]; have := HMN.out; omega⟩
                      · have dI : ¬ (m : Int) < (s.sz : Int) := by omega
                        obtain rfl : m = s.sz := by have := HMM.out; omega
                        clear hmn
                        go_wp2
                        case roundEnd => exact ⟨⟨k4 + 1, _, HKN.out, by rw [HW.out], HROW5.out, HLN.out, HCZ.out.trans HCH5.out⟩, by rw [HW.out]; simp only [intOf, Int.toNat_natCast]; have := HKN.out; omega⟩
                  · have dI : ¬ (k4 : Int) < (k3 : Int) := by omega
                    have hgF : g = F := by rw [← HLD.out, List.drop_eq_nil_of_le (by have := HSN.out; have := HK4.out; omega)]; rfl
                    have HAQ : Hid (wr.row? ab = some (mem F)) := Lib.hid (by rw [← hgF]; exact HROW4.out)
                    have HMQ : Hid (wr.row? mb = some (mem F)) := Lib.hid ((HCH4.out.row (row_lt HM8.out) (by have := HMA.out; simp; omega)).trans HM8.out)
                    have HOQ := Lib.hid (ownsRow_chg HO8.out HCH4.out (by intro x hx; have h1 := (HO8.out.lt x hx).1; have h2 := HAB5.out; simp; omega))
                    have HSZQ : Hid (w5.heap.size ≤ wr.heap.size) := Lib.hid (Nat.le_trans HSZ8.out HCH4.out.size)
                    clear hgF hkn
                    go_wp2_with fail
                    refine (get_ok F 2147483648 0 65536 mb rfl (by decide) wr HMQ.out).mono ?_
                    rintro e w11 ⟨vg, rfl, howg, hc11⟩
                    obtain ⟨qg, cg, rfl, hqg⟩ := own_form howg
                    obtain ⟨gg, rfl, hgg⟩ := hqg (by decide)
                    have HOG := Lib.hid howg
                    have HGG := Lib.hid hgg
                    have HX11 := Lib.hid (HX4.out.trans hc11)
                    have HC11L := Lib.hid hc11
                    have HA11 : Hid (w11.row? ab = some (mem F)) := Lib.hid ((hc11.row (row_lt HAQ.out) (by simp)).trans HAQ.out)
                    have HO11 := Lib.hid (ownsRow_chg HOQ.out hc11 (by intro x _; simp))
                    have HGX : Hid (wr.heap.size ≤ gg) := Lib.hid (howg.lt gg hgg).1
                    clear howg hgg hc11 hqg
                    obtain ⟨X2, hX2⟩ : ∃ X, X = w11.alloc (.cells #[.int .u32 0, .int .u32 0, .int .i64 0] 63) := ⟨_, rfl⟩
                    obtain ⟨B2, hB2⟩ : ∃ b, b = w11.heap.size := ⟨_, rfl⟩
                    have hcX2 : Chg [] w11 X2 := by rw [hX2]; exact (Chg.refl _ _).alloc _
                    have HR2 : Hid (X2.row? B2 = some #[.int .u32 0, .int .u32 0, .int .i64 0]) := Lib.hid (by rw [hX2]; exact row_alloc_at _ _ _ _ hB2)
                    have HOX := Lib.hid (ownsRow_chg HO11.out hcX2 (by intro x _; simp))
                    have HX12 := Lib.hid (HX11.out.trans hcX2)
                    have HX12L : Hid (Chg [] wr X2) := Lib.hid (HC11L.out.trans hcX2)
                    have HOG2 := Lib.hid (ownsRow_chg HOG.out hcX2 (by intro x _; simp))
                    have HA12 : Hid (X2.row? ab = some (mem F)) := Lib.hid ((hcX2.row (row_lt HA11.out) (by simp)).trans HA11.out)
                    have HX2 := Lib.hid hX2
                    have HB2 := Lib.hid hB2
                    clear hX2 hB2 hcX2
                    obtain ⟨i0, hi0, hz0, hz1, hz2⟩ := info_parts info63
                    go_wp2_with (at_builtin; rw [← HB2.out, ← HX2.out]; refine wpList_append_own _ rfl _ _ 61 rfl w5.heap.size 63 i0 (.agg #[.int .u32 0, .int .u32 0, .int .i64 0]) 3 16 Try.underlying61 hi0 hz0 hz1 hz2 rfl (by decide) (.slice pv k3 pc) k3 (flS bias S) rfl HOX.out ⟨B2, 0, none⟩ 1 1 (SpC ⟨0, 0, 0⟩) rfl rfl (fun jx u hu => by rw [addr_add, Nat.zero_add, row_cell HR2.out]; simpa [SpC] using hu) (fun u hu => spc_one [⟨0, 0, 0⟩] u (by simpa using hu)) (by have := HN20.out; unfold maxLen; omega) (by have := HN20.out; omega) (Nat.le_trans HSZQ.out HX12L.out.size) ?_)
                    intro v' w12 hx1 hx2 _
                    obtain ⟨pv2, pc2, rfl, -⟩ := own_form hx1
                    have HX13 : Hid (Chg [] X w12) := Lib.hid (chg_grown HX12.out hx2 (fun x hx => Nat.le_trans HC5.out.size (HOX.out.lt x hx).1))
                    have HCA : Hid (∀ W, Chg [] w12 W → ∀ i, i < 65536 → W.cell? ⟨ab, i, none⟩ = some (.int .u8 (F i : Int))) := Lib.hid fun W hW i hi => by
                      refine cell_keep ?_ hW (by simp)
                      rw [hx2.cell_far ⟨ab, i, none⟩ (row_lt HA12.out) (fun h => by have h1 := (HOX.out.lt ab h.symm).1; have h2 := HAB5.out; omega)]
                      exact mem_row HA12.out i hi
                    have HCG : Hid (∀ W, Chg [] w12 W → ∀ i, i < 65536 → W.cell? ⟨gg, i, none⟩ = some (.int .u8 (F i : Int))) := Lib.hid fun W hW i hi => by
                      refine cell_keep ?_ hW (by simp)
                      rw [hx2.cell_far ⟨gg, i, none⟩ (HOG2.out.lt gg HGG.out).2 (fun h => by have h1 := (HOQ.out.lt gg h.symm).2; have h2 := HGX.out; omega)]
                      refine cellsAt HOG2.out HGG.out i _ ?_
                      unfold u8L
                      rw [List.getElem?_map, gtL_get F 0 65536 i hi, Nat.zero_add]
                      rfl
                    clear hx1 hx2 hi0 hz0 hz1 hz2
                    go_wp2_with fail
                    refine (pload_ne (p := p) (c := c) (show k3 ≠ k3 + 1 by omega)).mono ?_
                    rintro e w13 ⟨rfl, hc13⟩
                    have HX14 := Lib.hid (HX13.out.trans hc13)
                    obtain ⟨xs, hxs⟩ : ∃ x, x = strOfNums ((List.range 65536).map fun i => (F i : Int)) := ⟨_, rfl⟩
                    have HV1 : Hid ((convert 35 9 (.slice (some ⟨gg, 0, none⟩) 65536 cg)).run Try.prog w13 = .ok (.string xs) w13) := Lib.hid (by rw [hxs]; exact conv_all (HCG.out _ hc13))
                    have HV2 : Hid ((convert 35 9 (.slice (some ⟨ab, 0, none⟩) 65536 65536)).run Try.prog w13 = .ok (.string xs) w13) := Lib.hid (by rw [hxs]; exact conv_all (HCA.out _ hc13))
                    clear hxs hc13
                    have cv1 := HV1.out
                    have cv2 := HV2.out
                    go_wp2
                    go_ret
                    exact ⟨rfl, HCX.out.trans HX14.out⟩
end Go.Proofs.L
