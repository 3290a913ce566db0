/- Proved here: lemmas and contracts (Lk8) for the laws of this seat, for all values of the stated types; no further condition. -/
import Derived.Test.YtjbplncpcgfaoaaLk7
open Go Go.RowKit Go.Lib Go.Maps
namespace Go.Proofs.L
attribute [local irreducible] wpT
/-! LinkLimits: the walk -/
theorem app_structB {P : Program} {w : World} {ops : Array Oper} {rest : List Oper} {o : Oper} {a : Act} {Q : Exit → Act → World → Prop} (hgd : o.guard = none) (s x : Operand) (t e : TypeId) (z : Value) (size bytes : Nat)
    (ho : o.op = .call { callee := .builtin .append, args := #[s, x], argTypes := #[t, t] }) (ht : P.underlying t = some (.slice e)) (hI : (P.info? e).map (fun i => (i.zero, i.size, i.bytes)) = some (some z, size, bytes)) (hzs : z.cells.size = size) (hsz : 0 < size) (hb8 : bytes ≤ 200)
    (base : Nat) (v : Value) (n : Nat) (xs : List Value) (hs : a.eval s = v) (hown : w.ownsRow base e size v n xs)
    (g : Nat) (news : List Value) (hx : a.eval x = .slice (some ⟨g, 0, none⟩) 1 1) (hl : news.length = size) (hr : w.row? g = some news.toArray) (h1 : ∀ u ∈ news, u.oneCell' = true) (hn : n < 100000) (hbase : base ≤ w.heap.size)
    (h : ∀ v' w', w'.ownsRow base e size v' (n + 1) (xs ++ news) → w.grownBy w' v.ownBlock → (∀ g, v'.ownBlock = some g → v.ownBlock = some g ∨ w.heap.size ≤ g) → wpList P ops Q rest (a.put o.dst v') w') : wpList P ops Q (o :: rest) a w := by
  obtain ⟨i, hi, hz, h2, h3⟩ := info_parts hI
  refine wpList_append_lies w hgd s x t ho base e i z size bytes ht hi hz h2 h3 hzs hsz v n xs hs hown ⟨g, 0, none⟩ 1 1 news hx (by rw [Nat.one_mul]; exact hl) (news_row hr) h1 (by decide) (by unfold maxLen; omega) (by
    have : (n + 1) * bytes ≤ 100001 * 200 := Nat.mul_le_mul (by omega) hb8
    omega) hbase _ rfl (fun g cap w' q1 q2 q3 _ => h _ w' q1 q2 (fun g' hg' => by
      simp only [Value.ownBlock] at hg'
      obtain rfl := Option.some.inj hg'
      exact q3.imp id (fun e => Nat.le_of_eq e.symm)))
def obZ (g : Nat) : Ob := obM (some ⟨g, 0, none⟩) g 4 [0, 0, 0, 0] none 0 0 0 [] none 0 0 0 []
def zrow : Array Value := #[.int .u8 0, .int .u8 0, .int .u8 0, .int .u8 0]
def obsC (Gs : List Nat) : List Value := Gs.flatMap fun g => (obA (obZ g)).toList
theorem obsC_app (Gs : List Nat) (g : Nat) : obsC (Gs ++ [g]) = obsC Gs ++ (obA (obZ g)).toList := by unfold obsC; simp
theorem info53 : (Try.prog.info? 53).map (fun i => (i.zero, i.size, i.bytes)) = some (some (.agg #[.slice none 0 0, .slice none 0 0, .int .u32 0, .slice none 0 0, .slice none 0 0]), 5, 104) := by kernel_rfl
theorem lim (a : Int) (b s : Nat) (hb : b ≤ 100) (hs : s ≤ b) : ∃ N : Nat, b - s ≤ N ∧ N ≤ b - s + 3 ∧ wrap64 (wrap64 ((wrap64 (Int.tmod a 4 + 4)).tmod 4 + (b : Int)) - (s : Int)) = (N : Int) := by
  have h1 := Int.lt_tmod_of_pos a (show (0:Int) < 4 by decide)
  have h2 := Int.tmod_lt_of_pos a (show (0:Int) < 4 by decide)
  have e1 : wrap64 (Int.tmod a 4 + 4) = Int.tmod a 4 + 4 := IntWalk.wrap64_in _ ⟨by omega, by omega⟩
  generalize Int.tmod a 4 = t at *
  rw [e1, Int.tmod_eq_emod_of_nonneg (by omega)]
  have e2 : wrap64 ((t + 4) % 4 + (b : Int)) = (t + 4) % 4 + (b : Int) := IntWalk.wrap64_in _ ⟨by omega, by omega⟩
  rw [e2]
  have e3 : wrap64 ((t + 4) % 4 + (b : Int) - (s : Int)) = (t + 4) % 4 + (b : Int) - (s : Int) := IntWalk.wrap64_in _ ⟨by omega, by omega⟩
  rw [e3]
  exact ⟨((t + 4) % 4 + (b : Int) - (s : Int)).toNat, by omega, by omega, by omega⟩
def zeroAt (w : World) (Gs : List Nat) : Prop := ∀ g ∈ Gs, w.row? g = some zrow
theorem obZ_ok {w : World} {g : Nat} (h : w.row? g = some zrow) : ObOk w (obZ g) :=
  obM_ok rfl (fun _ => rfl) (fun h => by cases h) (u8_row (L := [0, 0, 0, 0]) h (by decide)) rfl (fun h => absurd h (Nat.lt_irrefl 0)) (fun j x hx => by simp at hx) rfl (fun h => absurd h (Nat.lt_irrefl 0)) (none_at _ _ _)
theorem info55 : (Try.prog.info? 55).map (fun i => (i.zero, i.size, i.bytes)) = some (some (.agg #[.string ⟨#[]⟩, .int .i64 0, .int .u32 0]), 3, 32) := by kernel_rfl
def nmB (j : Nat) : ByteArray := strOfNums [110, (j : Int)]
def dfN (j : Nat) : Df := ⟨nmB j, 0, 0⟩
def dfsN (j : Nat) : List Df := stD :: (List.range j).map dfN
theorem dfsN_succ (j : Nat) : dfsN (j + 1) = dfsN j ++ [dfN j] := by unfold dfsN; rw [List.range_succ, List.map_append]; rfl
theorem dfsN_len (j : Nat) : (dfsN j).length = j + 1 := by simp [dfsN]
theorem conv_nm (w : World) (j : Nat) : (convert 36 9 (.slice (some ⟨w.heap.size, 0, none⟩) 2 2)).run Try.prog (w.alloc (.cells #[.int .u8 110, .int .u8 (j : Int)] 5)) = .ok (.string (nmB j)) (w.alloc (.cells #[.int .u8 110, .int .u8 (j : Int)] 5)) :=
  run_convert_bytes_arg (P := Try.prog) _ 36 5 Try.underlying36 Try.underlying5 w.heap.size 0 2 2 [110, (j : Int)] rfl (fun i hi => by
    rw [row_cell (row_alloc_at _ _ _ _ rfl), Nat.zero_add]
    rcases i with _ | _ | i
    · rfl
    · rfl
    · omega) 9 Try.underlying9
/-- an object with its definitions in a box -/
structure Lo (w : World) (O gz B gd cF j : Nat) : Prop where
  row : w.row? O = some #[.slice (some ⟨gz, 0, none⟩) 4 4, .slice none 0 0, .int .u32 0, .slice (some ⟨gd, 0, none⟩) (j + 1) cF, .slice none 0 0]
  z : w.row? gz = some zrow
  own : w.ownsRow B 55 3 (.slice (some ⟨gd, 0, none⟩) (j + 1) cF) (j + 1) ((dfsN j).flatMap DfC)
  n1 : gd ≠ O
  n2 : gd ≠ gz
  n3 : O ≠ gz
  hO : B ≤ O
def namesL (gz gd cF j : Nat) : List Ob := [obM (some ⟨gz, 0, none⟩) gz 4 [0, 0, 0, 0] (some ⟨gd, 0, none⟩) gd (j + 1) cF (dfsN j) none 0 0 0 []]
def rfS : Rf := ⟨0, 0, 1, startB, 0⟩
def refsO (gz gd : Nat) (pr : Option Addr) (br k cr : Nat) : List Ob := [obM (some ⟨gz, 0, none⟩) gz 4 [0, 0, 0, 0] (some ⟨gd, 0, none⟩) gd 1 1 [stD] pr br k cr (List.replicate k rfS)]
theorem names60 (gz gd cF : Nat) : errL (namesL gz gd cF 60) = 0 := by kernel_rfl
theorem names61 (gz gd cF : Nat) : errL (namesL gz gd cF 61) = 0 := by kernel_rfl
theorem names62 (gz gd cF : Nat) : errL (namesL gz gd cF 62) = 0 := by kernel_rfl
theorem names63 (gz gd cF : Nat) : errL (namesL gz gd cF 63) = 2 := by kernel_rfl
theorem refs62 (gz gd br cr : Nat) (pr : Option Addr) : errL (refsO gz gd pr br 62 cr) = 0 := by kernel_rfl
theorem refs63 (gz gd br cr : Nat) (pr : Option Addr) : errL (refsO gz gd pr br 63 cr) = 0 := by kernel_rfl
theorem refs64 (gz gd br cr : Nat) (pr : Option Addr) : errL (refsO gz gd pr br 64 cr) = 0 := by kernel_rfl
theorem refs65 (gz gd br cr : Nat) (pr : Option Addr) : errL (refsO gz gd pr br 65 cr) = 1 := by kernel_rfl
theorem names_err (gz gd cF j : Nat) (h1 : 60 ≤ j) (h2 : j ≤ 63) : errL (namesL gz gd cF j) = if j + 2 ≤ 64 then 0 else 2 := by
  have h : j = 60 ∨ j = 61 ∨ j = 62 ∨ j = 63 := by omega
  rcases h with rfl | rfl | rfl | rfl
  · rw [names60]; rfl
  · rw [names61]; rfl
  · rw [names62]; rfl
  · rw [names63]; rfl
theorem refs_err (gz gd br k cr : Nat) (pr : Option Addr) (h1 : 62 ≤ k) (h2 : k ≤ 65) : errL (refsO gz gd pr br k cr) = if k ≤ 64 then 0 else 1 := by
  have h : k = 62 ∨ k = 63 ∨ k = 64 ∨ k = 65 := by omega
  rcases h with rfl | rfl | rfl | rfl
  · rw [refs62]; rfl
  · rw [refs63]; rfl
  · rw [refs64]; rfl
  · rw [refs65]; rfl
theorem info57 : (Try.prog.info? 57).map (fun i => (i.zero, i.size, i.bytes)) = some (some (.agg #[.int .i64 0, .int .u32 0, .int .i64 0, .string ⟨#[]⟩, .int .u32 0]), 5, 48) := by kernel_rfl
theorem rep_succ {α : Type} (k : Nat) (x : α) : List.replicate (k + 1) x = List.replicate k x ++ [x] := List.replicate_succ'
/-- an object with its references in a box -/
structure Lr (w : World) (O gz gd B : Nat) (vr : Value) (k : Nat) : Prop where
  row : w.row? O = some #[.slice (some ⟨gz, 0, none⟩) 4 4, .slice none 0 0, .int .u32 0, .slice (some ⟨gd, 0, none⟩) 1 1, vr]
  z : w.row? gz = some zrow
  d : w.row? gd = some (DfC stD).toArray
  own : w.ownsRow B 57 5 vr k ((List.replicate k rfS).flatMap RfC)
  nr : ∀ g, vr.ownBlock = some g → g ≠ O ∧ g ≠ gz ∧ g ≠ gd
  n1 : O ≠ gz
  n2 : O ≠ gd
  hO : B ≤ O
theorem own_dfs {w : World} {B gd c j : Nat} {Lq : List Df} (h : w.ownsRow B 55 3 (.slice (some ⟨gd, 0, none⟩) (j + 1) c) (j + 1) (Lq.flatMap DfC)) (hb : ∀ d ∈ Lq, d.at_ < 4294967296) : DfsAt w gd 0 Lq := by
  obtain ⟨tl, hr, -, -⟩ := own_row h
  exact dfs_row hr hb
theorem own_rfs {w : World} {B g c k : Nat} {Lq : List Rf} (h : w.ownsRow B 57 5 (.slice (some ⟨g, 0, none⟩) k c) k (Lq.flatMap RfC)) (hb : ∀ d ∈ Lq, d.at_ < 4294967296 ∧ d.add < 4294967296) : RfsAt w g 0 Lq := by
  obtain ⟨tl, hr, -, -⟩ := own_row h
  exact rfs_row hr hb
theorem obs_row {w : World} {b : Nat} {L : List Ob} {tl : List Value} (h : w.row? b = some (L.flatMap (fun s => (obA s).toList) ++ tl).toArray) (hs : ∀ s ∈ L, ObOk w s) : ObsAt w b 0 L := fun j s hj =>
  ⟨fun i u hu => by rw [row_cell h, Nat.zero_add, List.getElem?_toArray]; exact flat_at 5 (fun s => (obA s).toList) (fun _ => rfl) L tl j s i u hj hu, hs s (List.mem_of_getElem? hj)⟩
theorem post_form {W w' : World} {L : List Ob} {e : Ending} (h : LinkPost W L e w') : ∃ (x : Nat) (p1 p2 p3 : Option Addr) (n1 n2 n3 c1 c2 c3 : Nat), e = .returned (.tuple #[.agg #[.int .u32 (x : Int), .slice p1 n1 c1, .slice p2 n2 c2, .slice p3 n3 c3], .int .i64 (errL L : Int)]) ∧ Chg [] W w' := by
  obtain ⟨v, h1, h2, h3, h4⟩ := h
  by_cases h0 : errL L = 0
  · obtain ⟨vg, vr, vs, hv, hs, hr, hss⟩ := (h3 h0).ex
    obtain ⟨vc, vd, -, -, hs3⟩ := hs.ex
    obtain ⟨pg, cg, rfl, -⟩ := own_form hs3
    obtain ⟨ps, cs, rfl, -⟩ := own_form hss
    obtain ⟨pr, cr, rfl, -⟩ := own_form hr
    exact ⟨_, _, _, _, _, _, _, _, _, _, by rw [h1, hv], h4⟩
  · exact ⟨0, none, none, none, 0, 0, 0, 0, 0, 0, by rw [h1, h2 h0]; rfl, h4⟩
/-- many objects, the first of which defines start -/
def manyL (g0 q : Nat) (Gt : List Nat) : List Ob := obM (some ⟨g0, 0, none⟩) g0 4 [0, 0, 0, 0] (some ⟨q, 0, none⟩) q 1 1 [stD] none 0 0 0 [] :: Gt.map obZ
theorem range_form (Gt : List Nat) : Gt = (List.range Gt.length).map fun i => Gt.getD i 0 := by
  apply List.ext_getElem (by simp)
  intro i h1 h2
  simp [List.getD_eq_getElem?_getD, h1]
theorem many13 (g0 q : Nat) (f : Nat → Nat) : errL (manyL g0 q ((List.range 13).map f)) = 0 := by kernel_rfl
theorem many14 (g0 q : Nat) (f : Nat → Nat) : errL (manyL g0 q ((List.range 14).map f)) = 0 := by kernel_rfl
theorem many15 (g0 q : Nat) (f : Nat → Nat) : errL (manyL g0 q ((List.range 15).map f)) = 0 := by kernel_rfl
theorem many16 (g0 q : Nat) (f : Nat → Nat) : errL (manyL g0 q ((List.range 16).map f)) = 1 := by kernel_rfl
theorem many_err (g0 q : Nat) (Gt : List Nat) (h1 : 13 ≤ Gt.length) (h2 : Gt.length ≤ 16) : errL (manyL g0 q Gt) = if Gt.length + 1 ≤ 16 then 0 else 1 := by
  have e := range_form Gt
  generalize Gt.length = n at *
  rw [e]
  have h : n = 13 ∨ n = 14 ∨ n = 15 ∨ n = 16 := by omega
  rcases h with rfl | rfl | rfl | rfl
  · rw [many13]; rfl
  · rw [many14]; rfl
  · rw [many15]; rfl
  · rw [many16]; rfl
theorem many_at {w w2 : World} {gb q g0 : Nat} {Gt : List Nat} {tl : List Value} (hr : w.row? gb = some (obsC (g0 :: Gt) ++ tl).toArray) (hw : w2 = (w.setCell ⟨gb, 3, none⟩ (.slice (some ⟨q, 0, none⟩) 1 1)).alloc (.cells #[.string ⟨#[115, 116, 97, 114, 116]⟩, .int .i64 0, .int .u32 0] 55)) (hq : q = w.heap.size)
    (hz : zeroAt w (g0 :: Gt)) (hne : gb ∉ g0 :: Gt) : ObsAt w2 gb 0 (manyL g0 q Gt) := by
  have hlt := row_lt hr
  have hsz : (w.setCell ⟨gb, 3, none⟩ (.slice (some ⟨q, 0, none⟩) 1 1)).heap.size = w.heap.size := by simp
  have hz2 : zeroAt w2 (g0 :: Gt) := fun x hx => by
    rw [hw, row_alloc_past _ _ _ (by rw [hsz]; exact row_lt (hz x hx)), row_setCell, if_neg (fun e => hne (by rw [← e]; exact hx))]
    exact hz x hx
  refine obs_row (tl := tl) ?_ ?_
  · rw [hw, row_alloc_past _ _ _ (by rw [hsz]; exact hlt), row_setCell_same, hr]
    simp [manyL, obsC, obZ, obM, obA, List.flatMap_map]
  · intro s hs
    rcases List.mem_cons.1 hs with rfl | hs
    · refine obM_ok rfl (fun _ => rfl) (fun h => by cases h) (u8_row (L := [0, 0, 0, 0]) (hz2 g0 (by simp)) (by decide)) rfl (fun _ => rfl) (dfs_row (tl := []) ?_ (by simp [stD])) rfl (fun h => absurd h (Nat.lt_irrefl 0)) (none_at _ _ _)
      rw [hw]
      exact row_alloc_at _ _ _ _ (by rw [hsz]; exact hq)
    · obtain ⟨g, hg, rfl⟩ := List.mem_map.1 hs
      exact obZ_ok (hz2 g (by simp [hg]))
set_option maxRecDepth 100000 in
set_option maxHeartbeats 4000000 in
theorem limits_walk (n m k : Int) (W : World) : Calls Try.prog 5 #[.int .i64 n, .int .i64 m, .int .i64 k] W fun e w' => e = .returned (.bool true) ∧ Chg [] W w' := by
  go_enter Try.func5, Try.ntmps5
  go_wp2_with fail
  refine (fit_all W).mono ?_
  rintro e w1 ⟨rfl, hc1⟩
  have HC1 := Lib.hid hc1
  clear hc1
  go_upto_region 4 with (fail)
  obtain ⟨N, hN1, hN2, eN⟩ := lim n 16 2 (by decide) (by decide)
  obtain ⟨M, hM1, hM2, eM⟩ := lim m 64 3 (by decide) (by decide)
  obtain ⟨K, hK1, hK2, eK⟩ := lim k 64 2 (by decide) (by decide)
  have eN2 : wrap64 (wrap64 ((wrap64 (Int.tmod n 4 + 4)).tmod 4 + 16) - 2) = (N : Int) := eN
  have eM2 : wrap64 (wrap64 ((wrap64 (Int.tmod m 4 + 4)).tmod 4 + 64) - 3) = (M : Int) := eM
  have eK2 : wrap64 (wrap64 ((wrap64 (Int.tmod k 4 + 4)).tmod 4 + 64) - 2) = (K : Int) := eK
  rw [eN2, eM2, eK2]
  have HN := Lib.hid (show 14 ≤ N ∧ N ≤ 17 from ⟨hN1, hN2⟩)
  have HM := Lib.hid (show 61 ≤ M ∧ M ≤ 64 from ⟨hM1, hM2⟩)
  have HK := Lib.hid (show 62 ≤ K ∧ K ≤ 65 from ⟨hK1, hK2⟩)
  clear eN eM eK eN2 eM2 eK2 hN1 hN2 hM1 hM2 hK1 hK2
  have hmk : ∀ w : World, (Instr.makeSlice 36 (.int .i64 4) (.int .i64 4)).run Try.prog w = .ok (.slice (some ⟨w.heap.size, 0, none⟩) 4 4) (w.alloc (.cells zrow 5)) := fun _ => by kernel_rfl
  have HMK := Lib.hid hmk
  clear hmk
  obtain ⟨S0, hS0⟩ : ∃ S, S = w1.heap.size := ⟨_, rfl⟩
  have HS0 := Lib.hid hS0
  clear hS0
  go_wp2_with fail
  go_loopw [38, 7] (fun i v wr => ∃ Gs : List Nat, Gs.length ≤ N ∧ i = .int .i64 (Gs.length : Int) ∧ wr.ownsRow S0 53 5 v Gs.length (obsC Gs) ∧ zeroAt wr Gs ∧ (∀ g, v.ownBlock = some g → g ∉ Gs) ∧ Chg [] w1 wr) (fun i _ _ => N - (intOf i).toNat)
  case atStart => exact ⟨[], Nat.zero_le _, rfl, World.ownsRow_nil _ _ _ _, fun g hg => by simp at hg, fun g hg => by simp [Value.ownBlock] at hg, Chg.refl _ _⟩
  case round =>
    obtain ⟨Gs, hk, rfl, hown, hz, hne, hch⟩ := hrel
    obtain ⟨j, hj⟩ : ∃ j, j = Gs.length := ⟨_, rfl⟩
    rw [← hj] at hk hown ⊢
    have HJ := Lib.hid hj
    have HKJ := Lib.hid hk
    have HO := Lib.hid hown
    have HZR := Lib.hid hz
    have HNE := Lib.hid hne
    have HCH := Lib.hid hch
    clear hj hk hown hz hne hch
    by_cases hjn : j < N
    · have HJN := Lib.hid hjn
      have dJ : (j : Int) < (N : Int) := by omega
      have HWJ := Lib.hid (wrapK j (by have := HN.out; omega))
      have hmk := HMK.out
      obtain ⟨pv, cv, rfl, -⟩ := own_form HO.out
      clear hjn
      go_wp2_with (at_builtin; refine (app_structB rfl _ _ 22 53 _ 5 104 rfl Try.underlying22 info53 rfl (by decide) (by decide) S0 (.slice pv j cv) j (obsC Gs) rfl ((HO.out.alloc _).alloc _) (wr.heap.size + 1) (obA (obZ wr.heap.size)).toList rfl rfl (row_alloc_at _ _ _ _ (by simp)) (by simp [obA, obZ, obM, Value.oneCell']) (by have := HN.out; have := HJN.out; omega) (by have := HCH.out.size; have := HS0.out; simp; omega) ?_))
      intro v2 w2 hx1 hx2 hx3
      obtain ⟨g, hg⟩ : ∃ g, g = wr.heap.size := ⟨_, rfl⟩
      have hcc : Chg [] wr ((wr.alloc (.cells zrow 5)).alloc (.cells #[.slice (some ⟨wr.heap.size, 0, none⟩) 4 4, .slice none 0 0, .int .u32 0, .slice none 0 0, .slice none 0 0] 53)) := ((Chg.refl _ _).alloc _).alloc _
      have hgz : ((wr.alloc (.cells zrow 5)).alloc (.cells #[.slice (some ⟨wr.heap.size, 0, none⟩) 4 4, .slice none 0 0, .int .u32 0, .slice none 0 0, .slice none 0 0] 53)).row? g = some zrow := by
        rw [row_alloc_past _ _ _ (by simp; omega)]; exact row_alloc_at _ _ _ _ hg
      have hc2 := grown_chg hx2
      have HOG : Hid (∀ x ∈ Gs, x < wr.heap.size) := Lib.hid fun x hx => row_lt (HZR.out x hx)
      have HO2 : Hid (w2.ownsRow S0 53 5 v2 (Gs ++ [g]).length (obsC (Gs ++ [g]))) := Lib.hid (by
        rw [obsC_app, List.length_append, ← HJ.out, hg]; exact hx1)
      have HZ2 : Hid (zeroAt w2 (Gs ++ [g])) := Lib.hid (by
        intro x hx
        rcases List.mem_append.1 hx with h | h
        · exact (hc2.row (row_lt ((hcc.row (row_lt (HZR.out x h)) (by simp)).trans (HZR.out x h))) (by rw [Option.mem_toList]; intro e; exact HNE.out x e h)).trans ((hcc.row (row_lt (HZR.out x h)) (by simp)).trans (HZR.out x h))
        · obtain rfl := List.mem_singleton.1 h
          exact (hc2.row (row_lt hgz) (by rw [Option.mem_toList]; intro e; have := (HO.out.lt _ e).2; omega)).trans hgz)
      have HNE2 : Hid (∀ x, v2.ownBlock = some x → x ∉ Gs ++ [g]) := Lib.hid (by
        intro x hx hm
        rcases hx3 x hx with h | h
        · rcases List.mem_append.1 hm with h2 | h2
          · exact HNE.out x h h2
          · obtain rfl := List.mem_singleton.1 h2; have := (HO.out.lt _ h).2; omega
        · rcases List.mem_append.1 hm with h2 | h2
          · have := HOG.out x h2; first | omega | (simp at h; omega)
          · obtain rfl := List.mem_singleton.1 h2; first | omega | (simp at h; omega))
      have HC2 : Hid (Chg [] w1 w2) := Lib.hid (chg_grown (HCH.out.trans hcc) hx2 (fun k hk => by have := (HO.out.lt k hk).1; have := HS0.out; omega))
      have HL2 : Hid ((Gs ++ [g]).length = j + 1) := Lib.hid (by rw [List.length_append, ← HJ.out]; rfl)
      clear hx1 hx2 hx3 hcc hgz hc2 hg hmk
      go_wp2_with fail
      case roundEnd => exact ⟨⟨Gs ++ [g], by rw [HL2.out]; exact HJN.out, by rw [HWJ.out, HL2.out], HO2.out, HZ2.out, HNE2.out, HC2.out⟩, by rw [HWJ.out]; simp only [intOf, Int.toNat_natCast]; have := HJN.out; omega⟩
    · have dJ : ¬ (j : Int) < (N : Int) := by omega
      have HJN : Hid (j = N) := Lib.hid (by have := HKJ.out; omega)
      clear hjn
      obtain ⟨pv, cv, rfl, hpv⟩ := own_form HO.out
      obtain ⟨gb, rfl, -⟩ := hpv (by have := HN.out; have := HJN.out; omega)
      clear hpv
      have hlt : gb < wr.heap.size := (HO.out.lt gb rfl).2
      have j0 : (0 : Int) < (j : Int) := by have := HN.out; have := HJN.out; omega
      have j1 : 0 < j := by omega
      obtain ⟨tl, hr, hb1, hb2⟩ := own_row HO.out
      obtain ⟨g0, Gt, hGs⟩ : ∃ g0 Gt, Gs = g0 :: Gt := by
        cases Gs with
        | nil => have := HJ.out; simp at this; omega
        | cons x y => exact ⟨x, y, rfl⟩
      subst hGs
      have fc : (wr.alloc (.cells #[.string ⟨#[115, 116, 97, 114, 116]⟩, .int .i64 0, .int .u32 0] 55)).cell? ⟨gb, 3, none⟩ = some (.slice none 0 0) := by
        rw [row_cell ((row_alloc_past _ _ _ hlt).trans hr)]; rfl
      have ff : (wr.alloc (.cells #[.string ⟨#[115, 116, 97, 114, 116]⟩, .int .i64 0, .int .u32 0] 55)).frozen? ⟨gb, 3, none⟩ = false := row_free ((row_alloc_past _ _ _ hlt).trans hr) _
      have HR := Lib.hid hr
      have HLT := Lib.hid hlt
      clear hr hb1 hb2
      go_upto_region 10 with (fail)
      clear fc ff hlt
      have hgb := (HO.out.lt gb rfl).1
      obtain ⟨V2, hV2⟩ : ∃ V, V = (wr.setCell ⟨gb, 3, none⟩ (.slice (some ⟨wr.heap.size, 0, none⟩) 1 1)).alloc (.cells #[.string ⟨#[115, 116, 97, 114, 116]⟩, .int .i64 0, .int .u32 0] 55) := ⟨_, rfl⟩
      rw [← hV2]
      have hcv : Chg [gb] wr V2 := by rw [hV2]; exact ((Chg.refl [gb] wr).setCell (.inl (by simp)) _).alloc _
      have HAT := Lib.hid (many_at HR.out hV2 rfl HZR.out (HNE.out gb rfl))
      have HCV : Hid (Chg [] W V2) := Lib.hid (HC1.out.trans (chg_newer HCH.out hcv (by intro x hx; rw [List.mem_singleton] at hx; have := HS0.out; omega)))
      have HLN : Hid (Gt.length + 1 = j) := Lib.hid (by have := HJ.out; simp at this; omega)
      have HEN : Hid (errL (manyL g0 wr.heap.size Gt) = if N ≤ 16 then 0 else 1) := Lib.hid (by
        rw [many_err _ _ _ (by have := HLN.out; have := HN.out; have := HJN.out; omega) (by have := HLN.out; have := HN.out; have := HJN.out; omega), HLN.out, HJN.out])
      clear hV2 hcv j0 j1 dJ hgb
      go_wp2_with fail
      refine (link_any (c := cv) HAT.out (by simp [manyL]; exact HLN.out) (fun _ => rfl) (by
        intro s hs r hr
        rcases List.mem_cons.1 hs with rfl | hs
        · simp [obM] at hr
        · obtain ⟨g, hg, rfl⟩ := List.mem_map.1 hs
          simp [obZ, obM] at hr)).mono ?_
      rintro e w5 hpost
      obtain ⟨x1, p1, p2, p3, n1, n2, n3, c1, c2, c3, rfl, hc5⟩ := post_form hpost
      have HC5 : Hid (Chg [] W w5) := Lib.hid (HCV.out.trans hc5)
      obtain ⟨E1, hE1⟩ : ∃ E, E = errL (manyL g0 wr.heap.size Gt) := ⟨_, rfl⟩
      rw [← hE1] at HEN
      rw [← hE1]
      clear hpost hc5 hE1
      have hmk := HMK.out
      go_upto_region 11 with (first | (refine wpList_store_new a30 _ _ rfl rfl rfl rfl rfl rfl rfl rfl ?_))
      obtain ⟨V3, hV3⟩ : ∃ V, V = w5.alloc (.cells #[.int .u32 (x1 : Int), .slice p1 n1 c1, .slice p2 n2 c2, .slice p3 n3 c3] 30) := ⟨_, rfl⟩
      rw [← hV3]
      have HCV3 : Hid (Chg [] W V3) := Lib.hid (by rw [hV3]; exact HC5.out.alloc _)
      clear hV3
      go_upto_region 12 with (first | (refine wpList_store_new a53 _ _ rfl rfl rfl rfl rfl rfl rfl rfl ?_))
      obtain ⟨V4, hV4⟩ : ∃ V, V = ((V3.alloc (.cells zrow 5)).alloc (.cells #[.string ⟨#[115, 116, 97, 114, 116]⟩, .int .i64 0, .int .u32 0] 55)).alloc (.cells #[.slice (some ⟨V3.heap.size, 0, none⟩) 4 4, .slice none 0 0, .int .u32 0, .slice (some ⟨V3.heap.size + 1, 0, none⟩) 1 1, .slice none 0 0] 53) := ⟨_, rfl⟩
      obtain ⟨gz, hgz⟩ : ∃ g, g = V3.heap.size := ⟨_, rfl⟩
      rw [← hV4, ← hgz]
      have HLO : Hid (Lo V4 (gz + 1 + 1) gz gz (gz + 1) 1 0) := Lib.hid (by
        refine ⟨by rw [hV4, hgz]; exact row_alloc_at _ _ _ _ (by simp), ?_, ?_, by omega, by omega, by omega, by omega⟩
        · rw [hV4, row_alloc_past _ _ _ (by simp; omega), row_alloc_past _ _ _ (by simp; omega)]; exact row_alloc_at _ _ _ _ hgz
        · rw [hV4, hgz]
          have h := own_new (w := V3.alloc (.cells zrow 5)) (base := V3.heap.size) (e := 55) (n := 1) (size := 3) (vs := [.string ⟨#[115, 116, 97, 114, 116]⟩, .int .i64 0, .int .u32 0]) ((Chg.refl [] V3).alloc _).size rfl (by decide)
          rw [show (V3.alloc (.cells zrow 5)).heap.size = V3.heap.size + 1 by simp] at h
          exact h.alloc _)
      have HCV4 : Hid (Chg [] V3 V4 ∧ V3.heap.size = gz) := Lib.hid ⟨by rw [hV4]; exact (((Chg.refl _ _).alloc _).alloc _).alloc _, hgz.symm⟩
      obtain ⟨O, hO⟩ : ∃ O, O = gz + 1 + 1 := ⟨_, rfl⟩
      rw [← hO] at HLO ⊢
      obtain ⟨M1, hM1⟩ : ∃ M1, M = M1 + 1 := ⟨M - 1, by have := HM.out; omega⟩
      have wM : wrap64 ((M : Int) - 1) = (M1 : Int) := by have := HM.out; rw [IntWalk.wrap64_in _ ⟨by omega, by omega⟩]; omega
      have HMM := Lib.hid hM1
      clear hV4 hgz hO hmk hM1
      go_upto_block 2 with (fail)
      rw [wM]
      clear wM
      go_wp2_with fail
      go_loopw [62] (fun i wr => ∃ j gd cF : Nat, j ≤ M1 ∧ i = .int .i64 (j : Int) ∧ Lo wr O gz gz gd cF j ∧ Chg [] V3 wr) (fun i _ => M1 - (intOf i).toNat)
      case atStart => exact ⟨0, _, _, Nat.zero_le _, rfl, HLO.out, HCV4.out.1⟩
      case round =>
        obtain ⟨j2, gd, cF, hk, rfl, hlo, hch⟩ := hrel
        have HKJ2 := Lib.hid hk
        have HLO2 := Lib.hid hlo
        have HCH2 := Lib.hid hch
        clear hk hlo hch
        by_cases hjn : j2 < M1
        · have HJN2 := Lib.hid hjn
          have dJ : (j2 : Int) < (M1 : Int) := by omega
          have HWJ := Lib.hid (wrapK j2 (by have := HM.out; have := HMM.out; omega))
          have w8 : IntKind.u8.wrap (j2 : Int) = (j2 : Int) := by have := HM.out; have := HMM.out; simp [IntKind.wrap, IntKind.bits, IntKind.signed]; omega
          have c3 : wr.cell? ⟨O, 3, none⟩ = some (.slice (some ⟨gd, 0, none⟩) (j2 + 1) cF) := by rw [row_cell HLO2.out.row]; rfl
          have hcv := conv_nm wr j2
          clear hjn
          go_wp2_with (at_builtin; refine (app_structL rfl _ _ 50 55 _ 3 32 rfl Try.underlying50 info55 rfl (by decide) (by decide) gz (.slice (some ⟨gd, 0, none⟩) (j2 + 1) cF) (j2 + 1) ((dfsN j2).flatMap DfC) rfl ((HLO2.out.own.alloc _).alloc _) (wr.heap.size + 1) (DfC (dfN j2)) rfl rfl (row_alloc_at _ _ _ _ (by simp)) (by simp [DfC, Value.oneCell']) (by have := HM.out; have := HMM.out; have := HJN2.out; omega) (by have := HCH2.out.size; have := HCV4.out.2; first | omega | (simp; omega)) ?_))
          intro v2 w2 hx1 hx2 hx3
          have hcc : Chg [] wr ((wr.alloc (.cells #[.int .u8 110, .int .u8 (j2 : Int)] 5)).alloc (.cells #[.string (nmB j2), .int .i64 0, .int .u32 0] 55)) := ((Chg.refl _ _).alloc _).alloc _
          have hc2 := grown_chg hx2
          obtain ⟨pq, c2', rfl, hpq⟩ := own_form hx1
          obtain ⟨g2, rfl, -⟩ := hpq (by omega)
          have hOlt := row_lt HLO2.out.row
          have hzlt := row_lt HLO2.out.z
          have hr2 : w2.row? O = _ := ((hc2.row (row_lt ((hcc.row hOlt (by simp)).trans HLO2.out.row)) (by rw [Option.mem_toList]; intro e; injection e with e; exact HLO2.out.n1 e)).trans ((hcc.row hOlt (by simp)).trans HLO2.out.row))
          have hz2 := ((hc2.row (row_lt ((hcc.row hzlt (by simp)).trans HLO2.out.z)) (by rw [Option.mem_toList]; intro e; injection e with e; exact HLO2.out.n2 e)).trans ((hcc.row hzlt (by simp)).trans HLO2.out.z))
          have hg2 : g2 ≠ O ∧ g2 ≠ gz := by
            rcases hx3 g2 rfl with e | e
            · injection e with e; subst e; exact ⟨HLO2.out.n1, HLO2.out.n2⟩
            · first | exact ⟨by omega, by omega⟩ | (simp at e; exact ⟨by omega, by omega⟩)
          have HCS : Hid (Chg [O] w2 (w2.setCell ⟨O, 3, none⟩ (.slice (some ⟨g2, 0, none⟩) (j2 + 1 + 1) c2'))) := Lib.hid ((Chg.refl [O] w2).setCell (.inl (by simp)) _)
          have HLO3 : Hid (Lo (w2.setCell ⟨O, 3, none⟩ (.slice (some ⟨g2, 0, none⟩) (j2 + 1 + 1) c2')) O gz gz g2 c2' (j2 + 1)) := Lib.hid (by
            refine ⟨by rw [row_setCell_same, hr2]; rfl, (HCS.out.row (row_lt hz2) (by simpa using HLO2.out.n3.symm)).trans hz2, ?_, hg2.1, hg2.2, HLO2.out.n3, HLO2.out.hO⟩
            rw [dfsN_succ, List.flatMap_append]
            exact ownsRow_chg (by simpa using hx1) HCS.out (by intro k hk; injection hk with hk; subst hk; simpa using hg2.1))
          have HC3 : Hid (Chg [] V3 (w2.setCell ⟨O, 3, none⟩ (.slice (some ⟨g2, 0, none⟩) (j2 + 1 + 1) c2'))) := Lib.hid (chg_newer (chg_grown (HCH2.out.trans hcc) hx2 (fun k hk => by have := (HLO2.out.own.lt k hk).1; have := HCV4.out.2; omega)) HCS.out (by intro x hx; rw [List.mem_singleton] at hx; have := HLO2.out.hO; have := HCV4.out.2; omega))
          have fc : w2.cell? ⟨O, 3, none⟩ = some (.slice (some ⟨gd, 0, none⟩) (j2 + 1) cF) := by rw [row_cell hr2]; rfl
          have ff : w2.frozen? ⟨O, 3, none⟩ = false := row_free hr2 _
          clear hx1 hx2 hx3 hcc hc2 hpq hOlt hzlt hr2 hz2 hg2 hcv w8 c3
          go_wp2_with fail
          case roundEnd => exact ⟨⟨j2 + 1, g2, c2', HJN2.out, by rw [HWJ.out], HLO3.out, HC3.out⟩, by rw [HWJ.out]; simp only [intOf, Int.toNat_natCast]; have := HJN2.out; omega⟩
        · have dJ : ¬ (j2 : Int) < (M1 : Int) := by omega
          obtain rfl : j2 = M1 := by have := HKJ2.out; omega
          clear hjn
          have HLD : Hid (∀ (q : Nat) (u : Value), [Value.slice (some ⟨gz, 0, none⟩) 4 4, .slice none 0 0, .int .u32 0, .slice (some ⟨gd, 0, none⟩) (j2 + 1) cF, .slice none 0 0][q]? = some u → wr.cell? ⟨O, 0 + q, none⟩ = some u) := Lib.hid fun q u hu => by rw [row_cell HLO2.out.row, Nat.zero_add]; simpa using hu
          go_wp2_with (refine wpList_load_part a53 [Value.slice (some ⟨gz, 0, none⟩) 4 4, .slice none 0 0, .int .u32 0, .slice (some ⟨gd, 0, none⟩) (j2 + 1) cF, .slice none 0 0] rfl _ rfl rfl rfl HLD.out ?_)
          obtain ⟨Z5, hZ5⟩ : ∃ Z, Z = wr.alloc (.cells #[.slice (some ⟨gz, 0, none⟩) 4 4, .slice none 0 0, .int .u32 0, .slice (some ⟨gd, 0, none⟩) (j2 + 1) cF, .slice none 0 0] 53) := ⟨_, rfl⟩
          obtain ⟨q5, hq5⟩ : ∃ q, q = wr.heap.size := ⟨_, rfl⟩
          rw [← hZ5, ← hq5]
          have hcc : Chg [] wr Z5 := by rw [hZ5]; exact (Chg.refl _ _).alloc _
          have HAT2 : Hid (ObsAt Z5 q5 0 (namesL gz gd cF j2)) := Lib.hid (one_at (by rw [hZ5]; exact row_alloc_at _ _ _ _ hq5) (obM_ok rfl (fun _ => rfl) (fun h => by cases h) (u8_row (L := [0, 0, 0, 0]) ((hcc.row (row_lt HLO2.out.z) (by simp)).trans HLO2.out.z) (by decide)) (dfsN_len j2) (fun _ => rfl) (own_dfs (ownsRow_chg HLO2.out.own hcc (by intro k _; simp)) (by intro d hd; unfold dfsN at hd; rcases List.mem_cons.1 hd with rfl | hd; (show (0:Nat) < _; decide); obtain ⟨i, -, rfl⟩ := List.mem_map.1 hd; show (0:Nat) < _; decide)) rfl (fun h => absurd h (Nat.lt_irrefl 0)) (none_at _ _ _)))
          have HCZ5 : Hid (Chg [] W Z5) := Lib.hid (HCV3.out.trans (HCH2.out.trans hcc))
          have HE2 : Hid (errL (namesL gz gd cF j2) = if M + 1 ≤ 64 then 0 else 2) := Lib.hid (by rw [names_err _ _ _ _ (by have := HM.out; have := HMM.out; omega) (by have := HM.out; have := HMM.out; omega), HMM.out])
          obtain ⟨E2, hE2⟩ : ∃ E, E = errL (namesL gz gd cF j2) := ⟨_, rfl⟩
          clear hZ5 hq5 hcc dJ
          refine (link_any (c := 1) HAT2.out rfl (fun _ => rfl) (by intro s hs r hr; obtain rfl := List.mem_singleton.1 hs; simp [obM] at hr)).mono ?_
          rintro e w6 hpost
          obtain ⟨y1, r1, r2, r3, m1, m2, m3, d1, d2, d3, rfl, hc6⟩ := post_form hpost
          rw [← hE2] at HE2 ⊢
          have HC6 : Hid (Chg [] W w6) := Lib.hid (HCZ5.out.trans hc6)
          clear hpost hc6 hE2
          have hmk := HMK.out
          go_upto_region 18 with (first | (refine wpList_store_new a30 _ _ rfl rfl rfl rfl rfl rfl rfl rfl ?_))
          obtain ⟨V6, hV6⟩ : ∃ V, V = w6.alloc (.cells #[.int .u32 (y1 : Int), .slice r1 m1 d1, .slice r2 m2 d2, .slice r3 m3 d3] 30) := ⟨_, rfl⟩
          rw [← hV6]
          have HCV6 : Hid (Chg [] W V6) := Lib.hid (by rw [hV6]; exact HC6.out.alloc _)
          clear hV6
          go_upto_region 19 with (first | (refine wpList_store_new a53 _ _ rfl rfl rfl rfl rfl rfl rfl rfl ?_))
          obtain ⟨V7, hV7⟩ : ∃ V, V = ((V6.alloc (.cells zrow 5)).alloc (.cells #[.string ⟨#[115, 116, 97, 114, 116]⟩, .int .i64 0, .int .u32 0] 55)).alloc (.cells #[.slice (some ⟨V6.heap.size, 0, none⟩) 4 4, .slice none 0 0, .int .u32 0, .slice (some ⟨V6.heap.size + 1, 0, none⟩) 1 1, .slice none 0 0] 53) := ⟨_, rfl⟩
          obtain ⟨hz, hhz⟩ : ∃ g, g = V6.heap.size := ⟨_, rfl⟩
          rw [← hV7, ← hhz]
          have HLR : Hid (Lr V7 (hz + 1 + 1) hz (hz + 1) hz (.slice none 0 0) 0) := Lib.hid (by
            refine ⟨by rw [hV7, hhz]; exact row_alloc_at _ _ _ _ (by simp), ?_, ?_, World.ownsRow_nil _ _ _ _, fun g hg => by simp [Value.ownBlock] at hg, by omega, by omega, by omega⟩
            · rw [hV7, row_alloc_past _ _ _ (by simp; omega), row_alloc_past _ _ _ (by simp; omega)]; exact row_alloc_at _ _ _ _ hhz
            · rw [hV7, row_alloc_past _ _ _ (by simp; omega)]; exact row_alloc_at _ _ _ _ (by simp; omega))
          have HCV7 : Hid (Chg [] V6 V7 ∧ V6.heap.size = hz) := Lib.hid ⟨by rw [hV7]; exact (((Chg.refl _ _).alloc _).alloc _).alloc _, hhz.symm⟩
          obtain ⟨O2, hO2⟩ : ∃ O, O = hz + 1 + 1 := ⟨_, rfl⟩
          obtain ⟨hd, hhd⟩ : ∃ O, O = hz + 1 := ⟨_, rfl⟩
          rw [← hO2, ← hhd] at HLR
          rw [← hO2]
          clear hV7 hhz hO2 hhd hmk
          go_wp2_with fail
          go_loopw [87] (fun i wr => ∃ (j : Nat) (vr : Value), j ≤ K ∧ i = .int .i64 (j : Int) ∧ Lr wr O2 hz hd hz vr j ∧ Chg [] V6 wr) (fun i _ => K - (intOf i).toNat)
          case atStart => exact ⟨0, _, Nat.zero_le _, rfl, HLR.out, HCV7.out.1⟩
          case round =>
            obtain ⟨j3, vr, hk, rfl, hlr, hch⟩ := hrel
            have HKJ3 := Lib.hid hk
            have HLR2 := Lib.hid hlr
            have HCH3 := Lib.hid hch
            clear hk hlr hch
            by_cases hjn : j3 < K
            · have HJN3 := Lib.hid hjn
              have dJ : (j3 : Int) < (K : Int) := by omega
              have HWJ := Lib.hid (wrapK j3 (by have := HK.out; omega))
              obtain ⟨pv3, cv3, rfl, -⟩ := own_form HLR2.out.own
              have c4 : wr.cell? ⟨O2, 4, none⟩ = some (.slice pv3 j3 cv3) := by rw [row_cell HLR2.out.row]; rfl
              clear hjn
              go_wp2_with (at_builtin; refine (app_structL rfl _ _ 51 57 _ 5 48 rfl Try.underlying51 info57 rfl (by decide) (by decide) hz (.slice pv3 j3 cv3) j3 ((List.replicate j3 rfS).flatMap RfC) rfl (HLR2.out.own.alloc _) wr.heap.size (RfC rfS) rfl rfl (row_alloc_at _ _ _ _ rfl) (by simp [RfC, Value.oneCell']) (by have := HK.out; have := HJN3.out; omega) (by have := HCH3.out.size; have := HCV7.out.2; first | omega | (simp; omega)) ?_))
              intro v2 w2 hx1 hx2 hx3
              have hcc : Chg [] wr (wr.alloc (.cells #[.int .i64 0, .int .u32 0, .int .i64 1, .string ⟨#[115, 116, 97, 114, 116]⟩, .int .u32 0] 57)) := (Chg.refl _ _).alloc _
              have hc2 := grown_chg hx2
              obtain ⟨pq, cq, rfl, -⟩ := own_form hx1
              have hn := HLR2.out.nr
              have keep : ∀ x cs, wr.row? x = some cs → (Value.slice pv3 j3 cv3).ownBlock ≠ some x → w2.row? x = some cs := fun x cs h1 h2 => (hc2.row (row_lt ((hcc.row (row_lt h1) (by simp)).trans h1)) (by rw [Option.mem_toList]; exact h2)).trans ((hcc.row (row_lt h1) (by simp)).trans h1)
              have hr2 := keep O2 _ HLR2.out.row (fun e => (hn _ e).1 rfl)
              have hz2 := keep hz _ HLR2.out.z (fun e => (hn _ e).2.1 rfl)
              have hd2 := keep hd _ HLR2.out.d (fun e => (hn _ e).2.2 rfl)
              have hnew : ∀ g, (Value.slice pq (j3 + 1) cq).ownBlock = some g → g ≠ O2 ∧ g ≠ hz ∧ g ≠ hd := fun g hg => by
                rcases hx3 g hg with e | e
                · exact hn g e
                · have h1 := row_lt HLR2.out.row
                  have h2 := row_lt HLR2.out.z
                  have h3 := row_lt HLR2.out.d
                  first | exact ⟨by omega, by omega, by omega⟩ | (simp at e; exact ⟨by omega, by omega, by omega⟩)
              have HCS : Hid (Chg [O2] w2 (w2.setCell ⟨O2, 4, none⟩ (.slice pq (j3 + 1) cq))) := Lib.hid ((Chg.refl [O2] w2).setCell (.inl (by simp)) _)
              have HLR3 : Hid (Lr (w2.setCell ⟨O2, 4, none⟩ (.slice pq (j3 + 1) cq)) O2 hz hd hz (.slice pq (j3 + 1) cq) (j3 + 1)) := Lib.hid (by
                refine ⟨by rw [row_setCell_same, hr2]; rfl, (HCS.out.row (row_lt hz2) (by simpa using HLR2.out.n1.symm)).trans hz2, (HCS.out.row (row_lt hd2) (by simpa using HLR2.out.n2.symm)).trans hd2, ?_, hnew, HLR2.out.n1, HLR2.out.n2, HLR2.out.hO⟩
                rw [rep_succ, List.flatMap_append]
                exact ownsRow_chg (by simpa using hx1) HCS.out (by intro k hk; simpa using (hnew k hk).1))
              have HC3 : Hid (Chg [] V6 (w2.setCell ⟨O2, 4, none⟩ (.slice pq (j3 + 1) cq))) := Lib.hid (chg_newer (chg_grown (HCH3.out.trans hcc) hx2 (fun k hk => by have := (HLR2.out.own.lt k hk).1; have := HCV7.out.2; omega)) HCS.out (by intro x hx; rw [List.mem_singleton] at hx; have := HLR2.out.hO; have := HCV7.out.2; omega))
              have fc : w2.cell? ⟨O2, 4, none⟩ = some (.slice pv3 j3 cv3) := by rw [row_cell hr2]; rfl
              have ff : w2.frozen? ⟨O2, 4, none⟩ = false := row_free hr2 _
              clear hx1 hx2 hx3 hcc hc2 hn keep hr2 hz2 hd2 hnew c4
              go_wp2_with fail
              case roundEnd => exact ⟨⟨j3 + 1, _, HJN3.out, by rw [HWJ.out], HLR3.out, HC3.out⟩, by rw [HWJ.out]; simp only [intOf, Int.toNat_natCast]; have := HJN3.out; omega⟩
            · have dJ : ¬ (j3 : Int) < (K : Int) := by omega
              have HJK : Hid (j3 = K) := Lib.hid (by have := HKJ3.out; omega)
              clear hjn
              obtain ⟨pv3, cv3, rfl, hp3⟩ := own_form HLR2.out.own
              obtain ⟨g3, rfl, -⟩ := hp3 (by have := HK.out; have := HJK.out; omega)
              clear hp3
              have HLD3 : Hid (∀ (q : Nat) (u : Value), [Value.slice (some ⟨hz, 0, none⟩) 4 4, .slice none 0 0, .int .u32 0, .slice (some ⟨hd, 0, none⟩) 1 1, .slice (some ⟨g3, 0, none⟩) j3 cv3][q]? = some u → wr.cell? ⟨O2, 0 + q, none⟩ = some u) := Lib.hid fun q u hu => by rw [row_cell HLR2.out.row, Nat.zero_add]; simpa using hu
              go_wp2_with (refine wpList_load_part a53 [Value.slice (some ⟨hz, 0, none⟩) 4 4, .slice none 0 0, .int .u32 0, .slice (some ⟨hd, 0, none⟩) 1 1, .slice (some ⟨g3, 0, none⟩) j3 cv3] rfl _ rfl rfl rfl HLD3.out ?_)
              obtain ⟨Z8, hZ8⟩ : ∃ Z, Z = wr.alloc (.cells #[.slice (some ⟨hz, 0, none⟩) 4 4, .slice none 0 0, .int .u32 0, .slice (some ⟨hd, 0, none⟩) 1 1, .slice (some ⟨g3, 0, none⟩) j3 cv3] 53) := ⟨_, rfl⟩
              obtain ⟨q8, hq8⟩ : ∃ q, q = wr.heap.size := ⟨_, rfl⟩
              rw [← hZ8, ← hq8]
              have hcc : Chg [] wr Z8 := by rw [hZ8]; exact (Chg.refl _ _).alloc _
              have HAT3 : Hid (ObsAt Z8 q8 0 (refsO hz hd (some ⟨g3, 0, none⟩) g3 j3 cv3)) := Lib.hid (one_at (by rw [hZ8]; exact row_alloc_at _ _ _ _ hq8) (obM_ok rfl (fun _ => rfl) (fun h => by cases h) (u8_row (L := [0, 0, 0, 0]) ((hcc.row (row_lt HLR2.out.z) (by simp)).trans HLR2.out.z) (by decide)) rfl (fun _ => rfl) (dfs_row (tl := []) ((hcc.row (row_lt HLR2.out.d) (by simp)).trans HLR2.out.d) (by simp [stD])) (by simp) (fun _ => rfl) (own_rfs (ownsRow_chg HLR2.out.own hcc (by intro k _; simp)) (by intro d hd; obtain ⟨-, rfl⟩ := List.mem_replicate.1 hd; exact ⟨by decide, by decide⟩))))
              have HCZ8 : Hid (Chg [] W Z8) := Lib.hid (HCV6.out.trans (HCH3.out.trans hcc))
              have HE3 : Hid (errL (refsO hz hd (some ⟨g3, 0, none⟩) g3 j3 cv3) = if K ≤ 64 then 0 else 1) := Lib.hid (by rw [refs_err _ _ _ _ _ _ (by have := HK.out; have := HJK.out; omega) (by have := HK.out; have := HJK.out; omega), HJK.out])
              obtain ⟨E3, hE3⟩ : ∃ E, E = errL (refsO hz hd (some ⟨g3, 0, none⟩) g3 j3 cv3) := ⟨_, rfl⟩
              clear hZ8 hq8 hcc dJ
              refine (link_any (c := 1) HAT3.out rfl (fun _ => rfl) (by
                intro s hs r hr
                obtain rfl := List.mem_singleton.1 hs
                obtain ⟨-, rfl⟩ := List.mem_replicate.1 hr
                decide)).mono ?_
              rintro e w9 hpost
              obtain ⟨z1, s1, s2, s3, k1, k2, k3, f1, f2, f3, rfl, hc9⟩ := post_form hpost
              rw [← hE3] at HE3 ⊢
              have HC9 : Hid (Chg [] W w9) := Lib.hid (HCZ8.out.trans hc9)
              clear hpost hc9 hE3
              go_upto_region 24 with (first | (refine wpList_store_new a30 _ _ rfl rfl rfl rfl rfl rfl rfl rfl ?_))
              have wM1 : wrap64 ((M : Int) + 1) = (M : Int) + 1 := by have := HM.out; exact IntWalk.wrap64_in _ ⟨by omega, by omega⟩
              rcases Nat.lt_or_ge 16 N with hN | hN <;> rcases Nat.lt_or_ge 64 (M + 1) with hM | hM <;> rcases Nat.lt_or_ge 64 K with hK | hK
              · obtain rfl : E1 = 1 := by rw [HEN.out, if_neg (by omega)]
                obtain rfl : E2 = 2 := by rw [HE2.out, if_neg (by omega)]
                obtain rfl : E3 = 1 := by rw [HE3.out, if_neg (by omega)]
                have iN : ¬ (N : Int) ≤ 16 := by omega
                have iM : ¬ wrap64 ((M : Int) + 1) ≤ 64 := by rw [wM1]; omega
                have iK : ¬ (K : Int) ≤ 64 := by omega
                clear wM1 hN hM hK
                go_wp2
                go_ret
                exact ⟨rfl, HC9.out.alloc _⟩
              · obtain rfl : E1 = 1 := by rw [HEN.out, if_neg (by omega)]
                obtain rfl : E2 = 2 := by rw [HE2.out, if_neg (by omega)]
                obtain rfl : E3 = 0 := by rw [HE3.out, if_pos (by omega)]
                have iN : ¬ (N : Int) ≤ 16 := by omega
                have iM : ¬ wrap64 ((M : Int) + 1) ≤ 64 := by rw [wM1]; omega
                have iK : (K : Int) ≤ 64 := by omega
                clear wM1 hN hM hK
                go_wp2
                go_ret
                exact ⟨rfl, HC9.out.alloc _⟩
              · obtain rfl : E1 = 1 := by rw [HEN.out, if_neg (by omega)]
                obtain rfl : E2 = 0 := by rw [HE2.out, if_pos (by omega)]
                obtain rfl : E3 = 1 := by rw [HE3.out, if_neg (by omega)]
                have iN : ¬ (N : Int) ≤ 16 := by omega
                have iM : wrap64 ((M : Int) + 1) ≤ 64 := by rw [wM1]; omega
                have iK : ¬ (K : Int) ≤ 64 := by omega
                clear wM1 hN hM hK
                go_wp2
                go_ret
                exact ⟨rfl, HC9.out.alloc _⟩
              · obtain rfl : E1 = 1 := by rw [HEN.out, if_neg (by omega)]
                obtain rfl : E2 = 0 := by rw [HE2.out, if_pos (by omega)]
                obtain rfl : E3 = 0 := by rw [HE3.out, if_pos (by omega)]
                have iN : ¬ (N : Int) ≤ 16 := by omega
                have iM : wrap64 ((M : Int) + 1) ≤ 64 := by rw [wM1]; omega
                have iK : (K : Int) ≤ 64 := by omega
                clear wM1 hN hM hK
                go_wp2
                go_ret
                exact ⟨rfl, HC9.out.alloc _⟩
              · obtain rfl : E1 = 0 := by rw [HEN.out, if_pos (by omega)]
                obtain rfl : E2 = 2 := by rw [HE2.out, if_neg (by omega)]
                obtain rfl : E3 = 1 := by rw [HE3.out, if_neg (by omega)]
                have iN : (N : Int) ≤ 16 := by omega
                have iM : ¬ wrap64 ((M : Int) + 1) ≤ 64 := by rw [wM1]; omega
                have iK : ¬ (K : Int) ≤ 64 := by omega
                clear wM1 hN hM hK
                go_wp2
                go_ret
                exact ⟨rfl, HC9.out.alloc _⟩
              · obtain rfl : E1 = 0 := by rw [HEN.out, if_pos (by omega)]
                obtain rfl : E2 = 2 := by rw [HE2.out, if_neg (by omega)]
                obtain rfl : E3 = 0 := by rw [HE3.out, if_pos (by omega)]
                have iN : (N : Int) ≤ 16 := by omega
                have iM : ¬ wrap64 ((M : Int) + 1) ≤ 64 := by rw [wM1]; omega
                have iK : (K : Int) ≤ 64 := by omega
                clear wM1 hN hM hK
                go_wp2
                go_ret
                exact ⟨rfl, HC9.out.alloc _⟩
              · obtain rfl : E1 = 0 := by rw [HEN.out, if_pos (by omega)]
                obtain rfl : E2 = 0 := by rw [HE2.out, if_pos (by omega)]
                obtain rfl : E3 = 1 := by rw [HE3.out, if_neg (by omega)]
                have iN : (N : Int) ≤ 16 := by omega
                have iM : wrap64 ((M : Int) + 1) ≤ 64 := by rw [wM1]; omega
                have iK : ¬ (K : Int) ≤ 64 := by omega
                clear wM1 hN hM hK
                go_wp2
                go_ret
                exact ⟨rfl, HC9.out.alloc _⟩
              · obtain rfl : E1 = 0 := by rw [HEN.out, if_pos (by omega)]
                obtain rfl : E2 = 0 := by rw [HE2.out, if_pos (by omega)]
                obtain rfl : E3 = 0 := by rw [HE3.out, if_pos (by omega)]
                have iN : (N : Int) ≤ 16 := by omega
                have iM : wrap64 ((M : Int) + 1) ≤ 64 := by rw [wM1]; omega
                have iK : (K : Int) ≤ 64 := by omega
                clear wM1 hN hM hK
                go_wp2
                go_ret
                exact ⟨rfl, HC9.out.alloc _⟩
end Go.Proofs.L
