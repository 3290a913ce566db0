/- Proved here: lemmas and contracts (Lm6) for the laws of this seat, for all values of the stated types; no further condition. -/
import Derived.Test.YtjbplncpcgfaoaaLm5
import Derived.Laws.OwnMore
open Go Go.RowKit Go.Lib
namespace Go.Proofs.L.M
attribute [local irreducible] wpT
/-! Load: segments in memory -/
theorem a60 : aggT Try.prog 47 4 := aggT_of (by kernel_rfl)
structure Sg where
  (ad sz : Nat) (rt : Int) (ptr : Option Addr) (bb bo len cap : Nat) (g : Nat → Nat)
def SgC (s : Sg) : List Value := [.int .u32 (s.ad : Int), .slice s.ptr s.len s.cap, .int .u32 (s.sz : Int), .int .i64 s.rt]
structure SgOk (w : World) (s : Sg) : Prop where
  ad : s.ad < 4294967296
  sz : s.sz < 4294967296
  ptr : 0 < s.len → s.ptr = some ⟨s.bb, s.bo, none⟩
  cells : ∀ i, i < s.len → w.cell? ⟨s.bb, s.bo + i, none⟩ = some (.int .u8 (s.g i : Int))
  byt : ∀ i, s.g i < 256
def SgsAt (w : World) (b o : Nat) (L : List Sg) : Prop := ∀ (j : Nat) (s : Sg), L[j]? = some s → (∀ i u, (SgC s)[i]? = some u → w.cell? ⟨b, o + j * 4 + i, none⟩ = some u) ∧ SgOk w s
theorem SgsAt.keep {w w' : World} {b o : Nat} {L : List Sg} (h : SgsAt w b o L) (hc : Chg [] w w') : SgsAt w' b o L := fun j s hj => by
  obtain ⟨h1, h2⟩ := h j s hj
  exact ⟨fun i u hu => cell_keep (h1 i u hu) hc (by simp), ⟨h2.ad, h2.sz, h2.ptr, fun i hi => cell_keep (h2.cells i hi) hc (by simp), h2.byt⟩⟩
def segB (s : Sg) (i : Nat) : Nat := if i < s.len then s.g i else 0
/-- may the j-th be loaded? -/
def fitS (s : Sg) (p : Sp) : Bool := decide (p.sz = s.sz) && (decide (s.len ≤ s.sz) && inRam p.st p.sz)
def fitsL : List Sg → List Sp → Bool
  | s :: S, p :: P => fitS s p && fitsL S P
  | _, _ => true
def ldF (r : Nat) : List Sg → List Sp → (Nat → Nat) → (Nat → Nat)
  | s :: S, p :: P, f => ldF r S P (putN f (p.st - r) (segB s) s.sz)
  | _, _, f => f
theorem row_setAt {w : World} {b : Nat} {cur vs : Array Value} {t : TypeId} (hb : b = w.heap.size) : ((w.alloc (.cells cur t)).setRow b vs).row? b = some vs := by
  rw [row_setRow, if_pos rfl, row_alloc_at _ _ _ _ hb]; rfl
/-- the bytes of a segment, in a new block of its size -/
theorem seg_cells (s : Sg) (cs : List Value) (hl : cs.length = s.len) (hg : ∀ i, i < s.len → cs[i]? = some (.int .u8 (s.g i : Int))) (hlen : s.len ≤ s.sz) (i : Nat) (hi : i < s.sz) :
    ((madeCells #[Value.int .u8 0] s.sz).toList.take 0 ++ cs ++ (madeCells #[Value.int .u8 0] s.sz).toList.drop (0 + cs.length))[i]? = some (.int .u8 (segB s i : Int)) := by
  rw [List.take_zero, List.nil_append, toList_madeCells_one, Nat.zero_add]
  unfold segB
  by_cases h : i < s.len
  · rw [List.getElem?_append_left (by omega), hg i h, if_pos h]
  · rw [List.getElem?_append_right (by omega), List.getElem?_drop, List.getElem?_replicate, if_pos (by omega), if_neg h]; rfl
def LoadQ (w : World) (mb : Nat) (R : Nat × (Nat → Nat)) (e : Ending) (w' : World) : Prop := e = .returned (.int .i64 (R.1 : Int)) ∧ w'.row? mb = some (mem R.2) ∧ Chg [mb] w w'
def loadN (S : List Sg) (P : List Sp) (f : Nat → Nat) : Nat × (Nat → Nat) := if S.length ≠ P.length then (1, f) else if fitsL S P then (0, ldF 2147483648 S P f) else (18, f)
def fileA (e0 rl0 sy0 : Value) (p : Option Addr) (n c : Nat) : Array Value := #[e0, .slice p n c, rl0, sy0]
theorem fits_drop : ∀ (S : List Sg) (P : List Sp) (j : Nat) (s : Sg) (p : Sp), S[j]? = some s → P[j]? = some p → fitsL (S.drop j) (P.drop j) = (fitS s p && fitsL (S.drop (j + 1)) (P.drop (j + 1)))
  | a :: S, b :: P, 0, s, p, h1, h2 => by
    obtain rfl := Option.some.inj h1
    obtain rfl := Option.some.inj h2
    rfl
  | a :: S, b :: P, j + 1, s, p, h1, h2 => fits_drop S P j s p h1 h2
  | [], _, _, _, _, h1, _ => by simp at h1
  | _ :: _, [], _, _, _, _, h2 => by simp at h2
theorem ld_drop (r : Nat) : ∀ (S : List Sg) (P : List Sp) (j : Nat) (s : Sg) (p : Sp) (f : Nat → Nat), S[j]? = some s → P[j]? = some p → ldF r (S.drop j) (P.drop j) f = ldF r (S.drop (j + 1)) (P.drop (j + 1)) (putN f (p.st - r) (segB s) s.sz)
  | a :: S, b :: P, 0, s, p, f, h1, h2 => by
    obtain rfl := Option.some.inj h1
    obtain rfl := Option.some.inj h2
    rfl
  | a :: S, b :: P, j + 1, s, p, f, h1, h2 => ld_drop r S P j s p f h1 h2
  | [], _, _, _, _, _, h1, _ => by simp at h1
  | _ :: _, [], _, _, _, _, _, h2 => by simp at h2
theorem copy_seg {w : World} {s : Sg} (hs : SgOk w s) (hlen : s.len ≤ s.sz) : ∃ (V : World) (c : Nat), (Builtin.copy_ #[36, 36] 3 #[.slice (some ⟨w.heap.size, 0, none⟩) s.sz s.sz, .slice s.ptr s.len s.cap]).run Try.prog (w.alloc (.cells (madeCells #[Value.int .u8 0] s.sz) 5)) = .ok (goInt c) V ∧
    (∀ i, i < s.sz → V.cell? ⟨w.heap.size, i, none⟩ = some (.int .u8 (segB s i : Int))) ∧ Chg [] w V := by
  obtain ⟨Y, hY⟩ : ∃ Y, Y = w.alloc (.cells (madeCells #[Value.int .u8 0] s.sz) 5) := ⟨_, rfl⟩
  have hcY : Chg [] w Y := by rw [hY]; exact (Chg.refl _ _).alloc _
  have hrY : Y.row? w.heap.size = some (madeCells #[Value.int .u8 0] s.sz) := by rw [hY]; exact row_alloc_at _ _ _ _ rfl
  rw [← hY]
  by_cases h0 : 0 < s.len
  · obtain ⟨cs, hcs⟩ : ∃ cs, cs = (List.range s.len).map fun j => Value.int .u8 (s.g j : Int) := ⟨_, rfl⟩
    have hl : cs.length = s.len := by rw [hcs]; simp
    have hg : ∀ i, i < s.len → cs[i]? = some (.int .u8 (s.g i : Int)) := fun i hi => by rw [hcs]; simp [hi]
    have hh : Y.heap[w.heap.size]? = some (.cells (madeCells #[Value.int .u8 0] s.sz) 5 (0, 0)) := by rw [hY]; exact (MapKept.heap_alloc w _).1
    have hcp := run_copy_row (P := Try.prog) Y 36 36 3 5 w.heap.size 0 s.sz s.sz ⟨s.bb, s.bo, none⟩ s.len s.cap (madeCells #[Value.int .u8 0] s.sz) 5 cs Try.underlying36 size5 hh (by rw [hl]; exact (Nat.min_eq_left hlen).symm) (by
      intro j v hj
      have hjn : j < s.len := by rw [← hl]; exact (List.getElem?_eq_some_iff.1 hj).1
      rw [hg j hjn] at hj
      obtain rfl := Option.some.inj hj
      rw [addr_add]
      exact cell_keep (hs.cells j hjn) hcY (by simp)) (by rw [hl, size_madeCells]; omega) (by rw [hcs]; exact fill_cells s.len s.g)
    rw [hs.ptr h0]
    refine ⟨_, _, hcp, fun i hi => ?_, hcY.setRow (.inr (Nat.le_refl _)) _⟩
    rw [row_cell (by rw [row_setRow, if_pos rfl, hrY]; rfl)]
    have := seg_cells s cs hl hg hlen i hi
    simpa using this
  · obtain h1 : s.len = 0 := by omega
    refine ⟨Y, 0, run_copy_none Y 36 36 3 5 _ _ _ _ _ _ Try.underlying36 size5 (by rw [h1]; exact Nat.zero_min _), fun i hi => ?_, hcY⟩
    rw [row_cell hrY]
    have h2 : (madeCells #[Value.int .u8 0] s.sz)[i]? = (List.replicate s.sz (Value.int .u8 0))[i]? := by rw [← toList_madeCells_one]; simp
    rw [h2, List.getElem?_replicate, if_pos hi]
    unfold segB
    rw [if_neg (by omega)]
    rfl
theorem putN_none (f : Nat → Nat) (o : Nat) (g : Nat → Nat) : putN f o g 0 = f := by
  funext i; unfold putN; rw [if_neg (by omega)]
theorem put_seg {V : World} {mb nb n a o : Nat} {g h : Nat → Nat} (ha : a = 2147483648 + o) (hr : o + n ≤ 65536) (hm : V.row? mb = some (mem g)) (hc : ∀ i, i < n → V.cell? ⟨nb, i, none⟩ = some (.int .u8 (h i : Int))) :
    Calls Try.prog 26 #[.pointer (some ⟨mb, 0, none⟩), .int .u32 (a : Int), .slice (some ⟨nb, 0, none⟩) n n] V fun e w' => e = .returned (.int .i64 0) ∧ w'.row? mb = some (mem (putN g o h n)) ∧ Chg [mb] V w' := by
  by_cases h0 : 0 < n
  · exact put_ok g h a o n mb nb 0 n ha hr h0 V hm (fun j hj => by rw [Nat.zero_add]; exact hc j hj)
  · obtain rfl : n = 0 := by omega
    rw [putN_none]
    by_cases h65 : 65536 = o
    · exact (put_zero_eq g a mb 0 _ (by omega) V).mono fun e w' q => ⟨q.1, by rw [q.2]; exact hm, by rw [q.2]; exact Chg.refl _ _⟩
    · exact (put_zero_lt g a o mb 0 _ ha (by omega) h65 V).mono fun e w' q => ⟨q.1, by rw [q.2]; exact hm, by rw [q.2]; exact Chg.refl _ _⟩
theorem fitS_true {s : Sg} {r : Sp} (h : fitS s r = true) : r.sz = s.sz ∧ s.len ≤ s.sz ∧ 2147483648 ≤ r.st ∧ r.st + r.sz ≤ 2147549184 := by
  unfold fitS inRam at h
  rw [Bool.and_eq_true, Bool.and_eq_true, decide_eq_true_eq, decide_eq_true_eq, decide_eq_true_eq] at h
  exact ⟨h.1, h.2.1, h.2.2.1, h.2.2.2⟩
theorem u64l {n : Nat} (h : n ≤ 100000) : IntKind.u64.wrap (n : Int) = (n : Int) := u64_id (by omega) (by omega)
theorem u64s {n : Nat} (h : n < 4294967296) : IntKind.u64.wrap (n : Int) = (n : Int) := u64_id (by omega) (by omega)
set_option maxRecDepth 100000 in
set_option maxHeartbeats 16000000 in
theorem pload_any {e0 rl0 sy0 : Value} {w : World} {mb : Nat} {f : Nat → Nat} {S : List Sg} {P : List Sp} {p q : Option Addr} {b o n c pb po m pc : Nat} (hm : w.row? mb = some (mem f)) (hS : ∀ W, Chg [mb] w W → SgsAt W b o S) (hSn : S.length = n) (hp : 0 < n → p = some ⟨b, o, none⟩) (hn : n ≤ 1000)
    (hsz : ∀ s ∈ S, s.sz ≤ 65536 ∧ s.len ≤ 100000) (hP : SpsAt w pb po P) (hPn : P.length = m) (hq : 0 < m → q = some ⟨pb, po, none⟩) (hpm : pb ≠ mb) (hm2 : m ≤ 1000) :
    Calls Try.prog 14 #[.pointer (some ⟨mb, 0, none⟩), .agg (fileA e0 rl0 sy0 p n c), .slice q m pc] w (LoadQ w mb (loadN S P f)) := by
  obtain ⟨Fb, hFb⟩ : ∃ b, b = w.heap.size := ⟨_, rfl⟩
  obtain ⟨X, hX⟩ : ∃ X, X = w.alloc (.cells (fileA e0 rl0 sy0 p n c) 30) := ⟨_, rfl⟩
  have hcX : Chg [] w X := by rw [hX]; exact (Chg.refl _ _).alloc _
  have hrX : X.row? Fb = some (fileA e0 rl0 sy0 p n c) := by rw [hX]; exact row_alloc_at _ _ _ _ hFb
  have HFM : Hid (Fb ≠ mb) := Lib.hid (by have := row_lt hm; omega)
  have HRX : Hid (∀ W, Chg [mb] X W → W.row? Fb = some (fileA e0 rl0 sy0 p n c)) := Lib.hid fun W hW => (hW.row (row_lt hrX) (by simpa using HFM.out)).trans hrX
  have HS : Hid (∀ W, Chg [mb] X W → SgsAt W b o S) := Lib.hid fun W hW => hS W ((chg_any hcX).trans hW)
  have HP : Hid (∀ W, Chg [mb] X W → SpsAt W pb po P) := Lib.hid fun W hW => (hP.keep hcX (by simp)).keep hW (by simpa using hpm)
  have HM := Lib.hid ((hcX.row (row_lt hm) (by simp)).trans hm)
  have HCX := Lib.hid hcX
  have HSN := Lib.hid hSn
  have HPN := Lib.hid hPn
  have HPP := Lib.hid hp
  have HQQ := Lib.hid hq
  have HN := Lib.hid hn
  have HM2 := Lib.hid hm2
  have HSZ := Lib.hid hsz
  have HX := Lib.hid hX
  have HFB := Lib.hid hFb
  have c1 : X.cell? ⟨Fb, 1, none⟩ = some (.slice p n c) := by rw [row_cell hrX]; rfl
  clear hm hS hSn hp hn hsz hP hPn hq hpm hm2 hcX hrX hX hFb
  have hfa : fileA e0 rl0 sy0 p n c = #[e0, .slice p n c, rl0, sy0] := rfl
  rw [hfa] at HX ⊢
  clear hfa
  go_enter Try.func14, Try.ntmps14
  go_upto_region 1 with (fail)
  rw [← HX.out, ← HFB.out]
  clear HX HFB
  by_cases hnm : n = m
  · subst hnm
    have HE : Hid (loadN S P f = if fitsL S P then (0, ldF 2147483648 S P f) else (18, f)) := Lib.hid (by unfold loadN; rw [if_neg (by rw [HSN.out, HPN.out]; simp)])
    have HSP : Hid (∀ k, k < n → ∃ s r, S[k]? = some s ∧ P[k]? = some r) := Lib.hid fun k hk => ⟨_, _, List.getElem?_eq_getElem (by rw [HSN.out]; exact hk), List.getElem?_eq_getElem (by rw [HPN.out]; exact hk)⟩
    go_wp2_with fail
    go_loopw [22] (fun i wr => ∃ k : Nat, k ≤ n ∧ i = .int .i64 (k : Int) ∧ fitsL (S.drop k) (P.drop k) = fitsL S P ∧ Chg [] X wr) (fun i _ => n - (intOf i).toNat)
    case atStart => exact ⟨0, Nat.zero_le _, rfl, rfl, Chg.refl _ _⟩
    case round =>
      obtain ⟨k, hk, rfl, hfk, hch⟩ := hrel
      have HK := Lib.hid hk
      have HFK := Lib.hid hfk
      have HCH := Lib.hid hch
      clear hk hfk hch
      by_cases hkn : k < n
      · have HKN := Lib.hid hkn
        have dI : (k : Int) < (n : Int) := by omega
        obtain ⟨s, r, hs, hr⟩ := HSP.out k hkn
        obtain ⟨hsc, hso⟩ := HS.out _ (chg_any HCH.out) k s hs
        obtain ⟨hpc, hpl, hpz⟩ := HP.out _ (chg_any HCH.out) k r hr
        have HFD : Hid (fitsL S P = (fitS s r && fitsL (S.drop (k + 1)) (P.drop (k + 1)))) := Lib.hid (by rw [← HFK.out]; exact fits_drop S P k s r hs hr)
        obtain rfl := HPP.out (by omega)
        obtain rfl := HQQ.out (by omega)
        have HSC := Lib.hid hsc
        have HPC := Lib.hid hpc
        have HPL := Lib.hid hpl
        have HPZ := Lib.hid hpz
        have HSO := Lib.hid hso
        have HLEN := Lib.hid (HSZ.out s (List.mem_of_getElem? hs)).2
        have HW : Hid (wrap64 ((k : Int) + 1) = ((k + 1 : Nat) : Int)) := Lib.hid (wrap1 k (by have := HN.out; omega))
        obtain ⟨B1, hB1⟩ : ∃ b, b = wr.heap.size := ⟨_, rfl⟩
        obtain ⟨Z, hZ⟩ : ∃ Z, Z = (wr.alloc (.cells (SgC s).toArray 47)).alloc (.cells (SpC r).toArray 64) := ⟨_, rfl⟩
        have hcZ : Chg [] wr Z := by rw [hZ]; exact ((Chg.refl _ _).alloc _).alloc _
        have hr1 : Z.row? B1 = some (SgC s).toArray := by rw [hZ, row_alloc_past _ _ _ (by simp; omega)]; exact row_alloc_at _ _ _ _ hB1
        have hr2 : Z.row? (B1 + 1) = some (SpC r).toArray := by rw [hZ]; exact row_alloc_at _ _ _ _ (by simp [hB1])
        have D1 : Hid (Z.cell? ⟨B1, 1, none⟩ = some (.slice s.ptr s.len s.cap)) := Lib.hid (by rw [row_cell hr1]; rfl)
        have D2 : Hid (Z.cell? ⟨B1, 2, none⟩ = some (.int .u32 (s.sz : Int))) := Lib.hid (by rw [row_cell hr1]; rfl)
        have D3 : Hid (Z.cell? ⟨B1 + 1, 0, none⟩ = some (.int .u32 (r.st : Int))) := Lib.hid (by rw [row_cell hr2]; rfl)
        have D4 : Hid (Z.cell? ⟨B1 + 1, 1, none⟩ = some (.int .u32 (r.sz : Int))) := Lib.hid (by rw [row_cell hr2]; rfl)
        have HCZ : Hid (Chg [] X Z) := Lib.hid (HCH.out.trans hcZ)
        have HZ := Lib.hid hZ
        have HB1 := Lib.hid hB1
        have HPCE : Hid (∀ i u, (SpC r)[i]? = some u → (wr.alloc (.cells (SgC s).toArray 47)).cell? ⟨pb, po + k * 3 + i, none⟩ = some u) := Lib.hid fun i u hu => cell_keep (hpc i u hu) ((Chg.refl [] wr).alloc _) (by simp)
        clear hs hr hsc hso hpc hpl hpz hB1 hZ hcZ hr1 hr2 hkn c1
        go_upto_region 7 with (first | (refine wpList_load_part a60 (SgC s) rfl _ rfl rfl rfl HSC.out ?_) | (refine wpList_load_part a52 (SpC r) rfl _ rfl rfl rfl HPCE.out ?_) | (refine wpList_store_new a60 _ _ rfl rfl rfl rfl rfl rfl rfl rfl ?_) | (refine wpList_store_new a52 _ _ rfl rfl rfl (by simp [Act.eval]) rfl rfl rfl rfl ?_))
        rw [← HZ.out, ← HB1.out]
        clear HZ HB1 dI
        have d1 := D1.out
        have d2 := D2.out
        have d3 := D3.out
        have d4 := D4.out
        have HBAD : Hid (fitS s r = false → loadN S P f = (18, f)) := Lib.hid fun h => by rw [HE.out, HFD.out, h]; rfl
        by_cases h1 : r.sz = s.sz
        · obtain ⟨rst, rsz, rrt⟩ := r
          dsimp only at h1 d3 d4 HPL HPZ
          subst h1
          have h1 : (⟨rst, s.sz, rrt⟩ : Sp).sz = s.sz := rfl
          by_cases h2 : s.len ≤ s.sz
          · have e2 : decide ((s.sz : Int) < (s.len : Int)) = false := decide_eq_false (by omega)
            have e3 : ¬ s.sz < s.len := by omega
            have u1 := u64l HLEN.out
            have u2 := u64s HSO.out.sz
            have HH := Lib.hid (has_any rst s.sz HPL.out HPZ.out ⟨mb, 0, none⟩ Z)
            have HFS : Hid (fitS s ⟨rst, s.sz, rrt⟩ = inRam rst s.sz) := Lib.hid (by unfold fitS; rw [decide_eq_true h1, decide_eq_true h2]; rfl)
            clear h1 h2
            go_wp2_with fail
            refine HH.out.mono ?_
            rintro e w' ⟨rfl, hw⟩
            obtain rfl := hw.symm
            clear hw HH
            obtain ⟨ir, hir⟩ : ∃ x, x = inRam rst s.sz := ⟨_, rfl⟩
            rw [← hir] at HFS ⊢
            clear hir
            cases ir with
            | false =>
              have HR := Lib.hid (HBAD.out HFS.out)
              go_wp2
              go_ret
              exact ⟨by rw [HR.out]; rfl, by rw [HR.out]; exact (HCZ.out.row (row_lt HM.out) (by simp)).trans HM.out, chg_any (HCX.out.trans HCZ.out)⟩
            | true =>
              have HF2 : Hid (fitsL (S.drop (k + 1)) (P.drop (k + 1)) = fitsL S P) := Lib.hid (by rw [HFD.out, HFS.out]; rfl)
              go_wp2
              case roundEnd => exact ⟨⟨k + 1, HKN.out, by rw [HW.out], HF2.out, HCZ.out⟩, by rw [HW.out]; simp only [intOf, Int.toNat_natCast]; have := HKN.out; omega⟩
          · have e2 : decide ((s.sz : Int) < (s.len : Int)) = true := decide_eq_true (by omega)
            have e3 : s.sz < s.len := by omega
            have u1 := u64l HLEN.out
            have u2 := u64s HSO.out.sz
            have HR := Lib.hid (HBAD.out (by unfold fitS; rw [decide_eq_false h2]; simp))
            clear h1 h2
            go_wp2
            go_ret
            exact ⟨by rw [HR.out]; rfl, by rw [HR.out]; exact (HCZ.out.row (row_lt HM.out) (by simp)).trans HM.out, chg_any (HCX.out.trans HCZ.out)⟩
        · have e1 : ((r.sz : Int) == (s.sz : Int)) = false := by rw [beq_eq_false_iff_ne]; omega
          have e1b : ¬ (r.sz : Int) = (s.sz : Int) := by omega
          have HR := Lib.hid (HBAD.out (by unfold fitS; rw [decide_eq_false h1]; rfl))
          go_wp2
          go_ret
          exact ⟨by rw [HR.out]; rfl, by rw [HR.out]; exact (HCZ.out.row (row_lt HM.out) (by simp)).trans HM.out, chg_any (HCX.out.trans HCZ.out)⟩
      · have dI : ¬ (k : Int) < (n : Int) := by omega
        have HFT : Hid (fitsL S P = true) := Lib.hid (by rw [← HFK.out, List.drop_eq_nil_of_le (by have := HSN.out; omega)]; rfl)
        have HE2 : Hid (loadN S P f = (0, ldF 2147483648 S P f)) := Lib.hid (by rw [HE.out, HFT.out]; rfl)
        clear hkn
        have c2 : wr.cell? ⟨Fb, 1, none⟩ = some (.slice p n c) := by rw [row_cell (HRX.out _ (chg_any HCH.out))]; rfl
        go_wp2_with fail
        clear c2
        go_loopw [59] (fun i ws => ∃ (k : Nat) (g : Nat → Nat), k ≤ n ∧ i = .int .i64 (k : Int) ∧ ldF 2147483648 (S.drop k) (P.drop k) g = ldF 2147483648 S P f ∧ fitsL (S.drop k) (P.drop k) = true ∧ ws.row? mb = some (mem g) ∧ Chg [mb] X ws) (fun i _ => n - (intOf i).toNat)
        case atStart => exact ⟨0, f, Nat.zero_le _, rfl, rfl, HFT.out, (HCH.out.row (row_lt HM.out) (by simp)).trans HM.out, chg_any HCH.out⟩
        case round =>
          obtain ⟨k2, g, hk2, rfl, hld, hft, hrow, hch2⟩ := hrel
          have HK2 := Lib.hid hk2
          have HLD := Lib.hid hld
          have HFT2 := Lib.hid hft
          have HROW := Lib.hid hrow
          have HCH2 := Lib.hid hch2
          clear hk2 hld hft hrow hch2
          by_cases hkn : k2 < n
          · have HKN := Lib.hid hkn
            have dI : (k2 : Int) < (n : Int) := by omega
            obtain ⟨s, r, hs, hr⟩ := HSP.out k2 hkn
            obtain ⟨hsc, hso⟩ := HS.out _ HCH2.out k2 s hs
            obtain ⟨hpc, hpl, hpz⟩ := HP.out _ HCH2.out k2 r hr
            have hft3 := HFT2.out
            rw [fits_drop S P k2 s r hs hr, Bool.and_eq_true] at hft3
            have HFN := Lib.hid hft3.2
            obtain ⟨f1, f2, f3, f4⟩ := fitS_true hft3.1
            have HLN : Hid (ldF 2147483648 (S.drop (k2 + 1)) (P.drop (k2 + 1)) (putN g (r.st - 2147483648) (segB s) s.sz) = ldF 2147483648 S P f) := Lib.hid (by rw [← ld_drop 2147483648 S P k2 s r g hs hr]; exact HLD.out)
            obtain rfl := HPP.out (by omega)
            obtain rfl := HQQ.out (by omega)
            have hsz := (HSZ.out s (List.mem_of_getElem? hs)).1
            obtain ⟨oo, hoo⟩ : ∃ o', o' = r.st - 2147483648 := ⟨_, rfl⟩
            rw [← hoo] at HLN
            have HST : Hid (r.st = 2147483648 + oo) := Lib.hid (by omega)
            have HOO : Hid (oo + s.sz ≤ 65536) := Lib.hid (by omega)
            have HW : Hid (wrap64 ((k2 : Int) + 1) = ((k2 + 1 : Nat) : Int)) := Lib.hid (wrap1 k2 (by have := HN.out; omega))
            obtain ⟨B, hB⟩ : ∃ b, b = wr.heap.size := ⟨_, rfl⟩
            obtain ⟨Z, hZ⟩ : ∃ Z, Z = wr.alloc (.cells (SgC s).toArray 47) := ⟨_, rfl⟩
            have hcZ : Chg [] wr Z := by rw [hZ]; exact (Chg.refl _ _).alloc _
            have hr1 : Z.row? B = some (SgC s).toArray := by rw [hZ]; exact row_alloc_at _ _ _ _ hB
            have hmk := fun W => run_make_row' (P := Try.prog) 36 5 (.int .u8 0) 1 Try.underlying36 info5 rfl .u32 .u32 s.sz (by omega) (by omega) W
            have hsoZ : SgOk Z s := ⟨hso.ad, hso.sz, hso.ptr, fun i hi => cell_keep (hso.cells i hi) hcZ (by simp), hso.byt⟩
            obtain ⟨V, cc, hcp, hVc, hcV⟩ := copy_seg hsoZ f2
            obtain ⟨nb, hnb⟩ : ∃ b, b = Z.heap.size := ⟨_, rfl⟩
            obtain ⟨Y, hY⟩ : ∃ Y, Y = Z.alloc (.cells (madeCells #[Value.int .u8 0] s.sz) 5) := ⟨_, rfl⟩
            rw [← hnb, ← hY] at hcp
            rw [← hnb] at hVc
            have hcY : Chg [] Z Y := by rw [hY]; exact (Chg.refl _ _).alloc _
            have HSC := Lib.hid hsc
            have D1 : Hid (Y.cell? ⟨B, 1, none⟩ = some (.slice s.ptr s.len s.cap)) := Lib.hid (by rw [row_cell ((hcY.row (row_lt hr1) (by simp)).trans hr1)]; rfl)
            have D2 : Hid (Z.cell? ⟨B, 2, none⟩ = some (.int .u32 (s.sz : Int))) := Lib.hid (by rw [row_cell hr1]; rfl)
            have D3 : Hid (V.cell? ⟨pb, po + k2 * 3, none⟩ = some (.int .u32 (r.st : Int))) := Lib.hid (cell_keep (cell_keep (hpc 0 _ rfl) hcZ (by simp)) hcV (by simp))
            have HVM : Hid (V.row? mb = some (mem g)) := Lib.hid (((hcZ.trans hcV).row (row_lt HROW.out) (by simp)).trans HROW.out)
            have HVC := Lib.hid hVc
            have HCV : Hid (Chg [mb] X V) := Lib.hid (HCH2.out.trans (chg_any (hcZ.trans hcV)))
            have HCP := Lib.hid hcp
            have HMK := Lib.hid hmk
            have HZ := Lib.hid hZ
            have HB := Lib.hid hB
            have HY := Lib.hid hY
            have HNB := Lib.hid hnb
            clear hs hr hsc hso hpc hpl hpz hft3 f1 f2 f3 f4 hsz hoo hB hZ hcZ hr1 hmk hsoZ hcp hVc hcV hnb hY hcY hkn
            go_upto_region 13 with (first | (refine wpList_load_part a60 (SgC s) rfl _ rfl rfl rfl HSC.out ?_) | (refine wpList_store_new a60 _ _ rfl rfl rfl rfl rfl rfl rfl rfl ?_))
            rw [← HZ.out, ← HB.out]
            clear HZ HB dI
            have d2 := D2.out
            have mk := HMK.out
            go_upto_region 14 with (fail)
            rw [← HNB.out, ← HY.out]
            clear mk d2 HY HNB
            have d1 := D1.out
            have cp := HCP.out
            go_upto_region 15 with (fail)
            clear cp d1
            have d3 := D3.out
            go_wp2_with fail
            refine (put_seg HST.out HOO.out HVM.out HVC.out).mono ?_
            rintro e w9 ⟨rfl, hr9, hc9⟩
            have HR9 := Lib.hid hr9
            have HC9 := Lib.hid (HCV.out.trans hc9)
            clear hr9 hc9 d3
            go_wp2
            case roundEnd => exact ⟨⟨k2 + 1, _, HKN.out, by rw [HW.out], HLN.out, HFN.out, HR9.out, HC9.out⟩, by rw [HW.out]; simp only [intOf, Int.toNat_natCast]; have := HKN.out; omega⟩
          · have dI : ¬ (k2 : Int) < (n : Int) := by omega
            have HG : Hid (ldF 2147483648 S P f = g) := Lib.hid (by rw [← HLD.out, List.drop_eq_nil_of_le (by have := HSN.out; omega)]; rfl)
            go_wp2
            go_ret
            exact ⟨by rw [HE2.out]; rfl, by rw [HE2.out]; show _ = some (mem (ldF 2147483648 S P f)); rw [HG.out]; exact HROW.out, (chg_any HCX.out).trans HCH2.out⟩
  · have b1 : ((n : Int) == (m : Int)) = false := by rw [beq_eq_false_iff_ne]; omega
    have HE : Hid (loadN S P f = (1, f)) := Lib.hid (by unfold loadN; rw [if_pos (by rw [HSN.out, HPN.out]; exact hnm)])
    go_wp2
    go_ret
    exact ⟨by rw [HE.out]; rfl, by rw [HE.out]; exact HM.out, chg_any HCX.out⟩
end Go.Proofs.L.M
