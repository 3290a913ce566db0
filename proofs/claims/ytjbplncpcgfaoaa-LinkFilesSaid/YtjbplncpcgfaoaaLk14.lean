/- Proved here: lemmas and contracts (Lk14) for the laws of this seat, for all values of the stated types; no further condition. -/
import Derived.Test.YtjbplncpcgfaoaaLk13
import Derived.Test.YtjbplncpcgfaoaaLk8
open Go Go.RowKit Go.Lib Go.Maps
namespace Go.Proofs.L
attribute [local irreducible] wpT
/-! old: objects as the reference has them -/
theorem info82 : (Try.prog.info? 82).map (fun i => (i.zero, i.size, i.bytes)) = some (some (.agg #[.slice none 0 0, .slice none 0 0, .int .i64 0, .slice none 0 0, .slice none 0 0]), 5, 104) := by kernel_rfl
theorem info85 : (Try.prog.info? 85).map (fun i => (i.zero, i.size, i.bytes)) = some (some (.agg #[.string ⟨#[]⟩, .int .i64 0, .int .i64 0]), 3, 32) := by kernel_rfl
theorem info89 : (Try.prog.info? 89).map (fun i => (i.zero, i.size, i.bytes)) = some (some (.agg #[.int .i64 0, .int .i64 0, .int .i64 0, .string ⟨#[]⟩, .int .i64 0]), 5, 48) := by kernel_rfl
/-- an object under way, in a box -/
structure Ow (w : World) (S O : Nat) (s : Ob) (vf vr : Value) (kf kr : Nat) : Prop where
  row : w.row? O = some #[.slice s.pc s.nc s.cc, .slice s.pd s.nd s.cd, .int .i64 (s.z : Int), vf, vr]
  fo : w.ownsRow S 85 3 vf kf ((s.F.take kf).flatMap DrC)
  ro : w.ownsRow S 89 5 vr kr ((s.R.take kr).flatMap RrC)
  nf : ∀ g, vf.ownBlock = some g → g ≠ O
  nr : ∀ g, vr.ownBlock = some g → g ≠ O ∧ vf.ownBlock ≠ some g
  hO : S ≤ O
theorem Ow.keep {w w' : World} {S O : Nat} {s : Ob} {vf vr : Value} {kf kr : Nat} (h : Ow w S O s vf vr kf kr) (hc : Chg [] w w') : Ow w' S O s vf vr kf kr :=
  ⟨(hc.row (row_lt h.row) (by simp)).trans h.row, ownsRow_chg h.fo hc (by intro k _; simp), ownsRow_chg h.ro hc (by intro k _; simp), h.nf, h.nr, h.hO⟩
/-- a definition more -/
theorem Ow.defn {w w2 : World} {S O : Nat} {s : Ob} {vf vr v' : Value} {kf kr : Nat} {d : Df} (h : Ow w S O s vf vr kf kr) (hd : s.F[kf]? = some d) (h1 : w2.ownsRow S 85 3 v' (kf + 1) ((s.F.take kf).flatMap DrC ++ DrC d)) (h2 : w.grownBy w2 vf.ownBlock)
    (h3 : ∀ g, v'.ownBlock = some g → vf.ownBlock = some g ∨ w.heap.size ≤ g) : Ow (w2.setCell ⟨O, 3, none⟩ v') S O s v' vr (kf + 1) kr ∧ Chg (O :: vf.ownBlock.toList) w (w2.setCell ⟨O, 3, none⟩ v') := by
  have hc := grown_chg h2
  have hn : ∀ g, v'.ownBlock = some g → g ≠ O := fun g hg => by
    rcases h3 g hg with e | e
    · exact h.nf g e
    · have := row_lt h.row; omega
  have hFs : O ∉ vf.ownBlock.toList := by rw [Option.mem_toList]; intro e; exact h.nf O e rfl
  have hs : Chg [O] w2 (w2.setCell ⟨O, 3, none⟩ v') := (Chg.refl [O] w2).setCell (.inl (by simp)) _
  have hr2 := (hc.row (row_lt h.row) hFs).trans h.row
  refine ⟨⟨by rw [row_setCell_same, hr2]; rfl, ?_, ?_, hn, ?_, h.hO⟩, ?_⟩
  · rw [List.take_add_one, hd, List.flatMap_append]
    simpa using ownsRow_chg h1 hs (by intro k hk; simpa using hn k hk)
  · exact ownsRow_chg (ownsRow_chg h.ro hc (by intro k hk e; rw [Option.mem_toList] at e; exact (h.nr k hk).2 e)) hs (by intro k hk; simpa using (h.nr k hk).1)
  · intro g hg
    refine ⟨(h.nr g hg).1, fun e => ?_⟩
    rcases h3 g e with e2 | e2
    · exact (h.nr g hg).2 e2
    · have := (h.ro.lt g hg).2; omega
  · exact ⟨hs.os.trans hc.os, hs.tape.trans hc.tape, hs.output.trans hc.output, Nat.le_trans hc.size hs.size, fun k hk he => by
      rw [List.mem_cons, not_or] at he
      exact (hs.block k (Nat.lt_of_lt_of_le hk hc.size) (by simpa using he.1)).trans (hc.block k hk he.2)⟩
/-- a reference more -/
theorem Ow.refr {w w2 : World} {S O : Nat} {s : Ob} {vf vr v' : Value} {kf kr : Nat} {d : Rf} (h : Ow w S O s vf vr kf kr) (hd : s.R[kr]? = some d) (h1 : w2.ownsRow S 89 5 v' (kr + 1) ((s.R.take kr).flatMap RrC ++ RrC d)) (h2 : w.grownBy w2 vr.ownBlock)
    (h3 : ∀ g, v'.ownBlock = some g → vr.ownBlock = some g ∨ w.heap.size ≤ g) : Ow (w2.setCell ⟨O, 4, none⟩ v') S O s vf v' kf (kr + 1) ∧ Chg (O :: vr.ownBlock.toList) w (w2.setCell ⟨O, 4, none⟩ v') := by
  have hc := grown_chg h2
  have hn : ∀ g, v'.ownBlock = some g → g ≠ O ∧ vf.ownBlock ≠ some g := fun g hg => by
    rcases h3 g hg with e | e
    · exact h.nr g e
    · exact ⟨by have := row_lt h.row; omega, fun e2 => by have := (h.fo.lt g e2).2; omega⟩
  have hFs : O ∉ vr.ownBlock.toList := by rw [Option.mem_toList]; intro e; exact (h.nr O e).1 rfl
  have hs : Chg [O] w2 (w2.setCell ⟨O, 4, none⟩ v') := (Chg.refl [O] w2).setCell (.inl (by simp)) _
  have hr2 := (hc.row (row_lt h.row) hFs).trans h.row
  refine ⟨⟨by rw [row_setCell_same, hr2]; rfl, ?_, ?_, h.nf, hn, h.hO⟩, ?_⟩
  · exact ownsRow_chg (ownsRow_chg h.fo hc (by intro k hk e; rw [Option.mem_toList] at e; exact (h.nr k e).2 hk)) hs (by intro k hk; simpa using h.nf k hk)
  · rw [List.take_add_one, hd, List.flatMap_append]
    simpa using ownsRow_chg h1 hs (by intro k hk; simpa using (hn k hk).1)
  · exact ⟨hs.os.trans hc.os, hs.tape.trans hc.tape, hs.output.trans hc.output, Nat.le_trans hc.size hs.size, fun k hk he => by
      rw [List.mem_cons, not_or] at he
      exact (hs.block k (Nat.lt_of_lt_of_le hk hc.size) (by simpa using he.1)).trans (hc.block k hk he.2)⟩
def rosC (L : List Ob) (T : List Rb) : List Value := (L.zip T).flatMap fun p => (roA p.1 p.2).toList
/-- the objects that are done -/
structure Ol (w : World) (S : Nat) (v : Value) (L : List Ob) (T : List Rb) (j : Nat) : Prop where
  own : w.ownsRow S 82 5 v j (rosC (L.take j) T)
  len : T.length = j
  ok : ∀ (i : Nat) (s : Ob) (t : Rb), L[i]? = some s → T[i]? = some t → RbOk w s t
  ap : ∀ (i : Nat) (s : Ob) (t : Rb), L[i]? = some s → T[i]? = some t → (0 < s.nf → v.ownBlock ≠ some t.bf ∧ S ≤ t.bf) ∧ (0 < s.nr → v.ownBlock ≠ some t.br ∧ S ≤ t.br)
def OldPost (W : World) (L : List Ob) (n : Nat) (e : Ending) (w' : World) : Prop := ∃ (v : Value) (T : List Rb), e = .returned v ∧ Ol w' W.heap.size v L T n ∧ Chg [] W w'
theorem Ol.keep {w w' : World} {S : Nat} {v : Value} {L : List Ob} {T : List Rb} {j : Nat} (h : Ol w S v L T j) (hc : Chg [] w w') : Ol w' S v L T j :=
  ⟨ownsRow_chg h.own hc (by intro k _; simp), h.len, fun i s t hs ht => (h.ok i s t hs ht).keep hc, h.ap⟩
theorem RbOk.keepE {E : List Nat} {w w' : World} {s : Ob} {t : Rb} (h : RbOk w s t) (hc : Chg E w w') (hf : s.F.length = s.nf ∧ s.R.length = s.nr) (h1 : 0 < s.nf → t.bf ∉ E) (h2 : 0 < s.nr → t.br ∉ E) : RbOk w' s t :=
  ⟨h.Fp, fun j d hd i u hu => keepc (h.Fa j d hd i u hu) hc (h1 (by have := (List.getElem?_eq_some_iff.1 hd).1; omega)), h.Rp, fun j d hd i u hu => keepc (h.Ra j d hd i u hu) hc (h2 (by have := (List.getElem?_eq_some_iff.1 hd).1; omega))⟩
theorem RbOk.lt {w : World} {s : Ob} {t : Rb} (h : RbOk w s t) (hf : s.F.length = s.nf ∧ s.R.length = s.nr) : (0 < s.nf → t.bf < w.heap.size) ∧ (0 < s.nr → t.br < w.heap.size) := by
  refine ⟨fun h0 => ?_, fun h0 => ?_⟩
  · obtain ⟨d, hd⟩ : ∃ d, s.F[0]? = some d := ⟨_, List.getElem?_eq_getElem (by omega)⟩
    exact World.block_lt_of_cell? _ _ (h.Fa 0 d hd 0 _ rfl)
  · obtain ⟨d, hd⟩ : ∃ d, s.R[0]? = some d := ⟨_, List.getElem?_eq_getElem (by omega)⟩
    exact World.block_lt_of_cell? _ _ (h.Ra 0 d hd 0 _ rfl)
theorem Ow.rb {w : World} {S O : Nat} {s : Ob} {pf pr : Option Addr} {bf cf br cr : Nat} (h : Ow w S O s (.slice pf s.nf cf) (.slice pr s.nr cr) s.nf s.nr) (hl : s.F.length = s.nf ∧ s.R.length = s.nr)
    (hbf : 0 < s.nf → pf = some ⟨bf, 0, none⟩ ∧ (Value.slice pf s.nf cf).ownBlock = some bf) (hbr : 0 < s.nr → pr = some ⟨br, 0, none⟩ ∧ (Value.slice pr s.nr cr).ownBlock = some br) :
    RbOk w s ⟨pf, bf, cf, pr, br, cr⟩ := by
  refine ⟨fun h0 => (hbf h0).1, fun j d hd i u hu => ?_, fun h0 => (hbr h0).1, fun j d hd i u hu => ?_⟩
  · have h0 : 0 < s.nf := by have := (List.getElem?_eq_some_iff.1 hd).1; omega
    refine cellsAt h.fo (hbf h0).2 (j * 3 + i) u ?_
    have h2 := flat_at 3 DrC (fun _ => rfl) s.F [] j d i u hd hu
    rw [List.append_nil] at h2
    rwa [List.take_of_length_le (by omega)]
  · have h0 : 0 < s.nr := by have := (List.getElem?_eq_some_iff.1 hd).1; omega
    refine cellsAt h.ro (hbr h0).2 (j * 5 + i) u ?_
    have h2 := flat_at 5 RrC (fun _ => rfl) s.R [] j d i u hd hu
    rw [List.append_nil] at h2
    rwa [List.take_of_length_le (by omega)]
theorem Ol.more {w w2 : World} {S j : Nat} {v v2 : Value} {L : List Ob} {T : List Rb} {s : Ob} {t : Rb} (h : Ol w S v L T j) (hs : L[j]? = some s) (hF : ∀ s ∈ L, s.F.length = s.nf ∧ s.R.length = s.nr)
    (h1 : w2.ownsRow S 82 5 v2 (j + 1) (rosC (L.take j) T ++ (roA s t).toList)) (h2 : w.grownBy w2 v.ownBlock) (h3 : ∀ g, v2.ownBlock = some g → v.ownBlock = some g ∨ w.heap.size ≤ g)
    (ht : RbOk w s t) (ha : (0 < s.nf → v.ownBlock ≠ some t.bf ∧ S ≤ t.bf) ∧ (0 < s.nr → v.ownBlock ≠ some t.br ∧ S ≤ t.br)) : Ol w2 S v2 L (T ++ [t]) (j + 1) := by
  have hc := grown_chg h2
  have key : ∀ (s : Ob) (t : Rb), s ∈ L → RbOk w s t → ((0 < s.nf → v.ownBlock ≠ some t.bf ∧ S ≤ t.bf) ∧ (0 < s.nr → v.ownBlock ≠ some t.br ∧ S ≤ t.br)) →
      RbOk w2 s t ∧ ((0 < s.nf → v2.ownBlock ≠ some t.bf ∧ S ≤ t.bf) ∧ (0 < s.nr → v2.ownBlock ≠ some t.br ∧ S ≤ t.br)) := by
    intro s t hm hr ha
    have hl := hr.lt (hF s hm)
    refine ⟨hr.keepE hc (hF s hm) (fun h0 e => (ha.1 h0).1 (Option.mem_toList.1 e)) (fun h0 e => (ha.2 h0).1 (Option.mem_toList.1 e)), fun h0 => ⟨fun e => ?_, (ha.1 h0).2⟩, fun h0 => ⟨fun e => ?_, (ha.2 h0).2⟩⟩
    · rcases h3 _ e with e2 | e2
      · exact (ha.1 h0).1 e2
      · have := hl.1 h0; omega
    · rcases h3 _ e with e2 | e2
      · exact (ha.2 h0).1 e2
      · have := hl.2 h0; omega
  have hl := h.len
  have hjl : j < L.length := (List.getElem?_eq_some_iff.1 hs).1
  have all : ∀ (i : Nat) (s' : Ob) (t' : Rb), L[i]? = some s' → (T ++ [t])[i]? = some t' → RbOk w2 s' t' ∧ ((0 < s'.nf → v2.ownBlock ≠ some t'.bf ∧ S ≤ t'.bf) ∧ (0 < s'.nr → v2.ownBlock ≠ some t'.br ∧ S ≤ t'.br)) := by
    intro i s' t' hs' ht'
    by_cases hi : i < j
    · rw [List.getElem?_append_left (by omega)] at ht'
      exact key s' t' (List.mem_of_getElem? hs') (h.ok i s' t' hs' ht') (h.ap i s' t' hs' ht')
    · rw [List.getElem?_append_right (by omega)] at ht'
      obtain rfl : i = j := by
        have := (List.getElem?_eq_some_iff.1 ht').1
        simp at this
        omega
      rw [hs] at hs'
      obtain rfl := Option.some.inj hs'
      rw [hl, Nat.sub_self] at ht'
      obtain rfl := Option.some.inj ht'
      exact key s t (List.mem_of_getElem? hs) ht ha
  refine ⟨?_, by rw [List.length_append, hl]; rfl, fun i s' t' a b => (all i s' t' a b).1, fun i s' t' a b => (all i s' t' a b).2⟩
  have e : rosC (L.take (j + 1)) (T ++ [t]) = rosC (L.take j) T ++ (roA s t).toList := by
    unfold rosC
    rw [List.take_add_one, hs, Option.toList_some, List.zip_append (by rw [List.length_take]; omega), List.flatMap_append]
    simp
  rw [e]
  exact h1
set_option maxRecDepth 100000 in
set_option maxHeartbeats 4000000 in
theorem old_any {W : World} {p : Option Addr} {b o n c : Nat} {L : List Ob} (hS : ObsAt W b o L) (hn : L.length = n) (hp : 0 < n → p = some ⟨b, o, none⟩) (h7 : n ≤ 70000) (hsm : ∀ s ∈ L, SmallO s) :
    Calls Try.prog 11 #[.slice p n c] W (OldPost W L n) := by
  have HS : Hid (∀ V, Chg [] W V → ObsAt V b o L) := Lib.hid fun V hV => hS.keep hV
  have HN := Lib.hid hn
  have HP := Lib.hid hp
  have H7 := Lib.hid h7
  have HSM := Lib.hid hsm
  clear hS hn hp h7 hsm
  go_enter Try.func11, Try.ntmps11
  go_wp2_with fail
  go_loopw [13, 3] (fun i v wr => ∃ (j : Nat) (T : List Rb), j ≤ n ∧ i = .int .i64 (j : Int) ∧ Ol wr W.heap.size v L T j ∧ Chg [] W wr) (fun i _ _ => n - (intOf i).toNat)
  case atStart => exact ⟨0, [], Nat.zero_le _, rfl, ⟨World.ownsRow_nil _ _ _ _, rfl, fun i s t hs ht => by simp at ht, fun i s t hs ht => by simp at ht⟩, Chg.refl _ _⟩
  case round =>
    obtain ⟨j, T, hj, rfl, hol, hch⟩ := hrel
    have HJ := Lib.hid hj
    have HOL := Lib.hid hol
    have HCH := Lib.hid hch
    clear hj hol hch
    by_cases hjn : j < n
    · have HJN := Lib.hid hjn
      have dJ : (j : Int) < (n : Int) := by omega
      have HWJ := Lib.hid (wrap1 j (by have := H7.out; omega))
      obtain ⟨s, hs⟩ : ∃ s, L[j]? = some s := ⟨_, List.getElem?_eq_getElem (by rw [HN.out]; exact hjn)⟩
      have HS2 := Lib.hid hs
      have HSO := Lib.hid (HSM.out s (List.mem_of_getElem? hs))
      have HSC := Lib.hid (HS.out _ HCH.out j s hs).1
      have HOK : Hid (∀ V, Chg [] W V → ObOk V s) := Lib.hid fun V hV => (HS.out V hV j s hs).2
      obtain rfl := HP.out (by omega)
      obtain ⟨pf, hpe⟩ : ∃ p, p = s.pf := ⟨_, rfl⟩
      have HPF : Hid (0 < s.nf → pf = some ⟨s.bf, s.of_, none⟩) := Lib.hid (by rw [hpe]; exact (HOK.out _ HCH.out).Fp)
      obtain ⟨pr, hpe2⟩ : ∃ p, p = s.pr := ⟨_, rfl⟩
      have HPR : Hid (0 < s.nr → pr = some ⟨s.br, s.or_, none⟩) := Lib.hid (by rw [hpe2]; exact (HOK.out _ HCH.out).Rp)
      obtain ⟨Z, hZ⟩ : ∃ Z, Z = wr.alloc (.cells (obA s) 53) := ⟨_, rfl⟩
      obtain ⟨B, hB⟩ : ∃ b, b = wr.heap.size := ⟨_, rfl⟩
      have hc2 : Chg [] wr Z := by rw [hZ]; exact (Chg.refl _ _).alloc _
      have hr2 : Z.row? B = some (obA s) := by rw [hZ]; exact row_alloc_at _ _ _ _ hB
      have d0 : Z.cell? ⟨B, 0, none⟩ = some (.slice s.pc s.nc s.cc) := by rw [row_cell hr2]; rfl
      have d1 : Z.cell? ⟨B, 1, none⟩ = some (.slice s.pd s.nd s.cd) := by rw [row_cell hr2]; rfl
      have d2 : Z.cell? ⟨B, 2, none⟩ = some (.int .u32 (s.z : Int)) := by rw [row_cell hr2]; rfl
      have HB3 : Hid (∀ V, Chg [] Z V → V.cell? ⟨B, 3, none⟩ = some (.slice pf s.nf s.cf) ∧ V.cell? ⟨B, 4, none⟩ = some (.slice pr s.nr s.cr)) := Lib.hid fun V hc => by
        have h := (hc.row (row_lt hr2) (by simp)).trans hr2
        exact ⟨by rw [row_cell h, hpe]; rfl, by rw [row_cell h, hpe2]; rfl⟩
      have HCZ := Lib.hid (HCH.out.trans hc2)
      have HOLZ := Lib.hid (HOL.out.keep hc2)
      have wz : wrap64 (s.z : Int) = (s.z : Int) := by have := (HOK.out _ HCH.out).z; exact IntWalk.wrap64_in _ ⟨by omega, by omega⟩
      have HZ2 := Lib.hid hZ
      have HB2 := Lib.hid hB
      clear hs hZ hB hc2 hr2 hjn hpe hpe2
      go_upto_region 5 with (first | (refine wpList_load_part a53 (obA s).toList rfl _ rfl rfl rfl HSC.out ?_) | (refine wpList_store_new a53 _ _ rfl rfl rfl rfl rfl rfl rfl rfl ?_))
      rw [← HZ2.out, ← HB2.out]
      clear HZ2 HB2 dJ
      go_upto_region 6 with (first | (refine wpList_store_new a82 _ _ rfl rfl rfl rfl rfl rfl rfl rfl ?_))
      rw [wz]
      clear d0 d1 d2 wz
      obtain ⟨Y, hY⟩ : ∃ Y, Y = Z.alloc (.cells #[.slice s.pc s.nc s.cc, .slice s.pd s.nd s.cd, .int .i64 (s.z : Int), .slice none 0 0, .slice none 0 0] 82) := ⟨_, rfl⟩
      obtain ⟨O, hO⟩ : ∃ b, b = Z.heap.size := ⟨_, rfl⟩
      rw [← hY, ← hO]
      have hcy : Chg [] Z Y := by rw [hY]; exact (Chg.refl _ _).alloc _
      have HOW : Hid (Ow Y O O s (.slice none 0 0) (.slice none 0 0) 0 0) := Lib.hid ⟨by rw [hY]; exact row_alloc_at _ _ _ _ hO, World.ownsRow_nil _ _ _ _, World.ownsRow_nil _ _ _ _, fun g hg => by simp [Value.ownBlock] at hg, fun g hg => by simp [Value.ownBlock] at hg, Nat.le_refl _⟩
      have HCY := Lib.hid hcy
      have HOZ : Hid (Z.heap.size = O) := Lib.hid hO.symm
      have b3 := (HB3.out Y hcy).1
      clear hY hO hcy
      go_wp2_with fail
      clear b3
      go_loopw [28] (fun i wr => ∃ (q : Nat) (vf : Value), q ≤ s.nf ∧ i = .int .i64 (q : Int) ∧ Ow wr O O s vf (.slice none 0 0) q 0 ∧ Chg [] Z wr) (fun i _ => s.nf - (intOf i).toNat)
      case atStart => exact ⟨0, _, Nat.zero_le _, rfl, HOW.out, HCY.out⟩
      case round =>
        obtain ⟨q, vf, hq, rfl, how, hch⟩ := hrel
        have HQ := Lib.hid hq
        have HOW2 := Lib.hid how
        have HCQ := Lib.hid hch
        clear hq how hch
        by_cases hqn : q < s.nf
        · have HQN := Lib.hid hqn
          have dQ : (q : Int) < (s.nf : Int) := by omega
          have HWQ := Lib.hid (wrap1 q (by have := HSO.out.len; omega))
          obtain ⟨d, hd⟩ : ∃ d, s.F[q]? = some d := ⟨_, List.getElem?_eq_getElem (by rw [(HOK.out _ HCZ.out).Fn]; exact hqn)⟩
          have HD := Lib.hid hd
          have HFC := Lib.hid ((HOK.out _ (HCZ.out.trans HCQ.out)).Fa q d hd).1
          have wa : wrap64 (d.at_ : Int) = (d.at_ : Int) := by have := ((HOK.out _ HCZ.out).Fa q d hd).2; exact IntWalk.wrap64_in _ ⟨by omega, by omega⟩
          have HWA := Lib.hid wa
          obtain rfl := HPF.out (by omega)
          obtain ⟨X, hX⟩ : ∃ Z, Z = wr.alloc (.cells (DfC d).toArray 55) := ⟨_, rfl⟩
          obtain ⟨Bd, hB⟩ : ∃ b, b = wr.heap.size := ⟨_, rfl⟩
          have hc2 : Chg [] wr X := by rw [hX]; exact (Chg.refl _ _).alloc _
          have hr2 : X.row? Bd = some (DfC d).toArray := by rw [hX]; exact row_alloc_at _ _ _ _ hB
          have n0 : X.cell? ⟨Bd, 0, none⟩ = some (.string d.name) := by rw [row_cell hr2]; rfl
          have n1 : X.cell? ⟨Bd, 1, none⟩ = some (.int .i64 d.sec) := by rw [row_cell hr2]; rfl
          have n2 : X.cell? ⟨Bd, 2, none⟩ = some (.int .u32 (d.at_ : Int)) := by rw [row_cell hr2]; rfl
          have HOW3 := Lib.hid (HOW2.out.keep hc2)
          obtain ⟨pv, cv, rfl, -⟩ := own_form HOW3.out.fo
          have n3 : X.cell? ⟨O, 3, none⟩ = some (.slice pv q cv) := by rw [row_cell HOW3.out.row]; rfl
          have HCX := Lib.hid (HCQ.out.trans hc2)
          have HX2 := Lib.hid hX
          have HB2 := Lib.hid hB
          clear hd hX hB hc2 hr2 hqn wa
          go_upto_region 9 with (first | (refine wpList_load_part a55 (DfC d) rfl _ rfl rfl rfl HFC.out ?_) | (refine wpList_store_new a55 _ _ rfl rfl rfl rfl rfl rfl rfl rfl ?_))
          rw [← HX2.out, ← HB2.out]
          clear HX2 HB2 dQ
          go_wp2_with (at_builtin; refine (app_structL rfl _ _ 79 85 _ 3 32 rfl Try.underlying79 info85 rfl (by decide) (by decide) O (.slice pv q cv) q ((s.F.take q).flatMap DrC) rfl (HOW3.out.fo.alloc _) X.heap.size [.string d.name, .int .i64 d.sec, .int .i64 (wrap64 (d.at_ : Int))] rfl rfl (row_alloc_at _ _ _ _ rfl) (by simp [Value.oneCell']) (by have := HSO.out.len; have := HQN.out; omega) (by have := HCX.out.size; have := HOZ.out; first | omega | (simp; omega)) ?_))
          intro v2 w2 hx1 hx2 hx3
          rw [HWA.out] at hx1
          obtain ⟨pq, cq, rfl, -⟩ := own_form hx1
          have ha : Chg [] X (X.alloc (.cells #[.string d.name, .int .i64 d.sec, .int .i64 (wrap64 (d.at_ : Int))] 85)) := (Chg.refl _ _).alloc _
          have HL := Lib.hid ((HOW3.out.keep ha).defn HD.out hx1 hx2 (fun g hg => (hx3 g hg).imp id (fun e => by simpa using e)))
          have HC4 : Hid (Chg [] Z (w2.setCell ⟨O, 3, none⟩ (.slice pq (q + 1) cq))) := Lib.hid (chg_newer (HCX.out.trans ha) HL.out.2 (by
            intro g hg
            rw [List.mem_cons, Option.mem_toList] at hg
            rcases hg with e | e
            · have := HOZ.out; omega
            · have := (HOW3.out.fo.lt g e).1; have := HOZ.out; omega))
          have hr3 := ((grown_chg hx2).row (row_lt (HOW3.out.keep ha).row) (by rw [Option.mem_toList]; intro e; exact HOW3.out.nf O e rfl)).trans (HOW3.out.keep ha).row
          have fc : w2.cell? ⟨O, 3, none⟩ = some (.slice pv q cv) := by rw [row_cell hr3]; rfl
          have ff : w2.frozen? ⟨O, 3, none⟩ = false := row_free hr3 _
          clear hx1 hx2 hx3 ha hr3 n0 n1 n2 n3
          go_wp2_with fail
          case roundEnd => exact ⟨⟨q + 1, _, HQN.out, by rw [HWQ.out], HL.out.1, HC4.out⟩, by rw [HWQ.out]; simp only [intOf, Int.toNat_natCast]; have := HQN.out; omega⟩
        · have dQ : ¬ (q : Int) < (s.nf : Int) := by omega
          have HQF : Hid (q = s.nf) := Lib.hid (by have := HQ.out; omega)
          clear hqn
          have b4 := (HB3.out wr HCQ.out).2
          go_upto_block 4 with (fail)
          clear b4 dQ
          go_wp2_with fail
          go_loopw [49] (fun i wr => ∃ (q : Nat) (vr : Value), q ≤ s.nr ∧ i = .int .i64 (q : Int) ∧ Ow wr O O s vf vr s.nf q ∧ Chg [] Z wr) (fun i _ => s.nr - (intOf i).toNat)
          case atStart => exact ⟨0, _, Nat.zero_le _, rfl, by rw [← HQF.out]; exact HOW2.out, HCQ.out⟩
          case round =>
            obtain ⟨q2, vr, hq, rfl, how, hch⟩ := hrel
            have HQ2 := Lib.hid hq
            have HOW5 := Lib.hid how
            have HCQ2 := Lib.hid hch
            clear hq how hch
            by_cases hqn : q2 < s.nr
            · have HQN := Lib.hid hqn
              have dQ : (q2 : Int) < (s.nr : Int) := by omega
              have HWQ := Lib.hid (wrap1 q2 (by have := HSO.out.len; omega))
              obtain ⟨d, hd⟩ : ∃ d, s.R[q2]? = some d := ⟨_, List.getElem?_eq_getElem (by rw [(HOK.out _ HCZ.out).Rn]; exact hqn)⟩
              have HD := Lib.hid hd
              have HFC := Lib.hid ((HOK.out _ (HCZ.out.trans HCQ2.out)).Ra q2 d hd).1
              have wa : wrap64 (d.at_ : Int) = (d.at_ : Int) := by have := ((HOK.out _ HCZ.out).Ra q2 d hd).2.1; exact IntWalk.wrap64_in _ ⟨by omega, by omega⟩
              have HWA := Lib.hid wa
              have HWB : Hid (wrap64 (d.add : Int) = (d.add : Int)) := Lib.hid (by have := ((HOK.out _ HCZ.out).Ra q2 d hd).2.2; exact IntWalk.wrap64_in _ ⟨by omega, by omega⟩)
              obtain rfl := HPR.out (by omega)
              obtain ⟨X, hX⟩ : ∃ Z, Z = wr.alloc (.cells (RfC d).toArray 57) := ⟨_, rfl⟩
              obtain ⟨Bd, hB⟩ : ∃ b, b = wr.heap.size := ⟨_, rfl⟩
              have hc2 : Chg [] wr X := by rw [hX]; exact (Chg.refl _ _).alloc _
              have hr2 : X.row? Bd = some (RfC d).toArray := by rw [hX]; exact row_alloc_at _ _ _ _ hB
              have n0 : X.cell? ⟨Bd, 0, none⟩ = some (.int .i64 d.sec) := by rw [row_cell hr2]; rfl
              have n1 : X.cell? ⟨Bd, 1, none⟩ = some (.int .u32 (d.at_ : Int)) := by rw [row_cell hr2]; rfl
              have n2 : X.cell? ⟨Bd, 2, none⟩ = some (.int .i64 d.ty) := by rw [row_cell hr2]; rfl
              have n4 : X.cell? ⟨Bd, 3, none⟩ = some (.string d.name) := by rw [row_cell hr2]; rfl
              have n5 : X.cell? ⟨Bd, 4, none⟩ = some (.int .u32 (d.add : Int)) := by rw [row_cell hr2]; rfl
              have HOW6 := Lib.hid (HOW5.out.keep hc2)
              obtain ⟨pv, cv, rfl, -⟩ := own_form HOW6.out.ro
              have n3 : X.cell? ⟨O, 4, none⟩ = some (.slice pv q2 cv) := by rw [row_cell HOW6.out.row]; rfl
              have HCX := Lib.hid (HCQ2.out.trans hc2)
              have HX2 := Lib.hid hX
              have HB2 := Lib.hid hB
              clear hd hX hB hc2 hr2 hqn wa
              go_upto_region 14 with (first | (refine wpList_load_part a57 (RfC d) rfl _ rfl rfl rfl HFC.out ?_) | (refine wpList_store_new a57 _ _ rfl rfl rfl rfl rfl rfl rfl rfl ?_))
              rw [← HX2.out, ← HB2.out]
              clear HX2 HB2 dQ
              go_wp2_with (at_builtin; refine (app_structL rfl _ _ 80 89 _ 5 48 rfl Try.underlying80 info89 rfl (by decide) (by decide) O (.slice pv q2 cv) q2 ((s.R.take q2).flatMap RrC) rfl (HOW6.out.ro.alloc _) X.heap.size [.int .i64 d.sec, .int .i64 (wrap64 (d.at_ : Int)), .int .i64 d.ty, .string d.name, .int .i64 (wrap64 (d.add : Int))] rfl rfl (row_alloc_at _ _ _ _ rfl) (by simp [Value.oneCell']) (by have := HSO.out.len; have := HQN.out; omega) (by have := HCX.out.size; have := HOZ.out; first | omega | (simp; omega)) ?_))
              intro v2 w2 hx1 hx2 hx3
              rw [HWA.out, HWB.out] at hx1
              obtain ⟨pq, cq, rfl, -⟩ := own_form hx1
              have ha : Chg [] X (X.alloc (.cells #[.int .i64 d.sec, .int .i64 (wrap64 (d.at_ : Int)), .int .i64 d.ty, .string d.name, .int .i64 (wrap64 (d.add : Int))] 89)) := (Chg.refl _ _).alloc _
              have HL := Lib.hid ((HOW6.out.keep ha).refr HD.out hx1 hx2 (fun g hg => (hx3 g hg).imp id (fun e => by simpa using e)))
              have HC4 : Hid (Chg [] Z (w2.setCell ⟨O, 4, none⟩ (.slice pq (q2 + 1) cq))) := Lib.hid (chg_newer (HCX.out.trans ha) HL.out.2 (by
                intro g hg
                rw [List.mem_cons, Option.mem_toList] at hg
                rcases hg with e | e
                · have := HOZ.out; omega
                · have := (HOW6.out.ro.lt g e).1; have := HOZ.out; omega))
              have hr3 := ((grown_chg hx2).row (row_lt (HOW6.out.keep ha).row) (by rw [Option.mem_toList]; intro e; exact (HOW6.out.nr O e).1 rfl)).trans (HOW6.out.keep ha).row
              have fc : w2.cell? ⟨O, 4, none⟩ = some (.slice pv q2 cv) := by rw [row_cell hr3]; rfl
              have ff : w2.frozen? ⟨O, 4, none⟩ = false := row_free hr3 _
              clear hx1 hx2 hx3 ha hr3 n0 n1 n2 n3 n4 n5
              go_wp2_with fail
              case roundEnd => exact ⟨⟨q2 + 1, _, HQN.out, by rw [HWQ.out], HL.out.1, HC4.out⟩, by rw [HWQ.out]; simp only [intOf, Int.toNat_natCast]; have := HQN.out; omega⟩
            · have dQ : ¬ (q2 : Int) < (s.nr : Int) := by omega
              have HQR : Hid (q2 = s.nr) := Lib.hid (by have := HQ2.out; omega)
              clear hqn
              obtain rfl := HQR.out
              have HOLW := Lib.hid (HOLZ.out.keep HCQ2.out)
              obtain ⟨pf3, cf3, rfl, hpf⟩ := own_form HOW5.out.fo
              obtain ⟨bf3, hbf⟩ : ∃ g, 0 < s.nf → pf3 = some ⟨g, 0, none⟩ ∧ (Value.slice pf3 s.nf cf3).ownBlock = some g := by
                by_cases h : 0 < s.nf
                · obtain ⟨g, h1, h2⟩ := hpf h; exact ⟨g, fun _ => ⟨h1, h2⟩⟩
                · exact ⟨0, fun h2 => absurd h2 h⟩
              obtain ⟨pr3, cr3, rfl, hpr⟩ := own_form HOW5.out.ro
              obtain ⟨br3, hbr⟩ : ∃ g, 0 < s.nr → pr3 = some ⟨g, 0, none⟩ ∧ (Value.slice pr3 s.nr cr3).ownBlock = some g := by
                by_cases h : 0 < s.nr
                · obtain ⟨g, h1, h2⟩ := hpr h; exact ⟨g, fun _ => ⟨h1, h2⟩⟩
                · exact ⟨0, fun h2 => absurd h2 h⟩
              obtain ⟨pv3, cv3, rfl, -⟩ := own_form HOLW.out.own
              have HBF := Lib.hid hbf
              have HBR := Lib.hid hbr
              have HLD : Hid (∀ (q : Nat) (u : Value), [Value.slice s.pc s.nc s.cc, .slice s.pd s.nd s.cd, .int .i64 (s.z : Int), .slice pf3 s.nf cf3, .slice pr3 s.nr cr3][q]? = some u → wr.cell? ⟨O, 0 + q, none⟩ = some u) := Lib.hid fun q u hu => by rw [row_cell HOW5.out.row, Nat.zero_add]; simpa using hu
              clear hpf hbf hpr hbr dQ
              go_wp2_with (first | (refine wpList_load_part a82 [Value.slice s.pc s.nc s.cc, .slice s.pd s.nd s.cd, .int .i64 (s.z : Int), .slice pf3 s.nf cf3, .slice pr3 s.nr cr3] rfl _ rfl rfl rfl HLD.out ?_) | (at_builtin; refine (app_structB rfl _ _ 41 82 _ 5 104 rfl Try.underlying41 info82 rfl (by decide) (by decide) W.heap.size (.slice pv3 j cv3) j (rosC (L.take j) T) rfl (HOLW.out.own.alloc _) wr.heap.size (roA s ⟨pf3, bf3, cf3, pr3, br3, cr3⟩).toList rfl rfl (row_alloc_at _ _ _ _ rfl) (by simp [roA, Value.oneCell']) (by have := H7.out; have := HJN.out; omega) (by have := HCZ.out.size; have := HCQ2.out.size; simp; omega) ?_)))
              intro v2 w2 hx1 hx2 hx3
              have hal : Chg [] wr (wr.alloc (.cells (roA s ⟨pf3, bf3, cf3, pr3, br3, cr3⟩) 82)) := (Chg.refl _ _).alloc _
              obtain ⟨pq, cq, rfl, -⟩ := own_form hx1
              have HNL : Hid (∀ g, (Value.slice pv3 j cv3).ownBlock = some g → g < O) := Lib.hid fun g hg => by
                have := (HOLZ.out.own.lt g hg).2
                have := HOZ.out
                omega
              have hok := HOK.out _ HCZ.out
              have hmore := (HOLW.out.keep hal).more (t := ⟨pf3, bf3, cf3, pr3, br3, cr3⟩) HS2.out (fun s' hs' => by
                obtain ⟨i, hi⟩ := List.mem_iff_getElem?.1 hs'
                have h := (HS.out _ HCZ.out i s' hi).2
                exact ⟨h.Fn, h.Rn⟩) hx1 hx2 (fun g hg => (hx3 g hg).imp id (fun e => by simpa using e)) ((HOW5.out.rb ⟨hok.Fn, hok.Rn⟩ HBF.out HBR.out).keep hal) ⟨fun h0 => ⟨fun e => by have := (HOW5.out.fo.lt _ (HBF.out h0).2).1; have h8 : bf3 < O := HNL.out _ e; omega, by have := (HOW5.out.fo.lt _ (HBF.out h0).2).1; have := HOZ.out; have := HCZ.out.size; show W.heap.size ≤ bf3; omega⟩, fun h0 => ⟨fun e => by have := (HOW5.out.ro.lt _ (HBR.out h0).2).1; have h8 : br3 < O := HNL.out _ e; omega, by have := (HOW5.out.ro.lt _ (HBR.out h0).2).1; have := HOZ.out; have := HCZ.out.size; show W.heap.size ≤ br3; omega⟩⟩
              have HMORE := Lib.hid hmore
              have HCE : Hid (Chg [] W w2) := Lib.hid (chg_grown ((HCZ.out.trans HCQ2.out).trans hal) hx2 (fun k hk => (HOLW.out.own.lt k hk).1))
              clear hx1 hx2 hx3 hal hmore hok
              go_wp2_with fail
              case roundEnd => exact ⟨⟨j + 1, T ++ [⟨pf3, bf3, cf3, pr3, br3, cr3⟩], HJN.out, by rw [HWJ.out], HMORE.out, HCE.out⟩, by rw [HWJ.out]; simp only [intOf, Int.toNat_natCast]; have := HJN.out; omega⟩
    · have dJ : ¬ (j : Int) < (n : Int) := by omega
      obtain rfl : j = n := by have := HJ.out; omega
      clear hjn
      go_wp2
      go_ret
      exact ⟨_, T, rfl, HOL.out, HCH.out⟩
end Go.Proofs.L
