/- Proved here: lemmas and contracts (Lk7) for the laws of this seat, for all values of the stated types; no further condition. -/
import Derived.Test.YtjbplncpcgfaoaaLk6
open Go Go.RowKit Go.Lib Go.Maps
namespace Go.Proofs.L
attribute [local irreducible] wpT
/-! fit: the example -/
def stD : Df := ⟨startB, 0, 0⟩
/-- an object of the laws' own: code, definitions, references, nothing else -/
def obM (pc : Option Addr) (bc nc : Nat) (C : List Nat) (pf : Option Addr) (bf nf cf : Nat) (F : List Df) (pr : Option Addr) (br nr cr : Nat) (R : List Rf) : Ob :=
  ⟨pc, bc, 0, nc, nc, C, none, 0, 0, 0, 0, [], 0, pf, bf, 0, nf, cf, F, pr, br, 0, nr, cr, R⟩
theorem post_ok {W w' : World} {L : List Ob} {e : Ending} (h : LinkPost W L e w') (he : errL L = 0) : ∃ v, e = .returned (.tuple #[.agg v, .int .i64 0]) ∧ FileOk w' W.heap.size L v ∧ Chg [] W w' := by
  obtain ⟨v, h1, h2, h3, h4⟩ := h
  exact ⟨v, by rw [h1, he]; rfl, h3 he, h4⟩
def fitL (g : Nat) : List Ob := [obM (some ⟨g, 0, none⟩) g 4 [1, 2, 3, 4] (some ⟨g + 1, 0, none⟩) (g + 1) 1 1 [stD] none 0 0 0 []]
theorem fitL_err (g : Nat) : errL (fitL g) = 0 := by kernel_rfl
theorem fitL_seg (g : Nat) : (if 0 < sumO (fitL g) ((1 : Nat) : Int) (fitL g).length + sumO (fitL g) ((2 : Nat) : Int) (fitL g).length then 2 else 1) = 1 := by kernel_rfl
theorem fitL_sym (g : Nat) : (defsL (fitL g)).length + 1 = 2 := by kernel_rfl
theorem fitL_entry (g : Nat) : ((((symC (defsL (fitL g)))[numP (defsL (fitL g)) startB]?).bind fun u => match u with | .int _ x => some x.toNat | _ => none).getD 0 : Nat) = 256 := by kernel_rfl
theorem obM_ok {w : World} {pc pf pr : Option Addr} {bc nc bf nf cf br nr cr : Nat} {C : List Nat} {F : List Df} {R : List Rf} (hC : C.length = nc) (hCp : 0 < nc → pc = some ⟨bc, 0, none⟩) (hCo : pc = none → nc = 0) (hCa : U8At w bc 0 C)
    (hF : F.length = nf) (hFp : 0 < nf → pf = some ⟨bf, 0, none⟩) (hFa : DfsAt w bf 0 F) (hR : R.length = nr) (hRp : 0 < nr → pr = some ⟨br, 0, none⟩) (hRa : RfsAt w br 0 R) : ObOk w (obM pc bc nc C pf bf nf cf F pr br nr cr R) :=
  ⟨by show (0 : Nat) < _; decide, hC, hCp, fun h => ⟨hCo h, hCo h⟩, hCa, rfl, fun h => absurd h (Nat.lt_irrefl 0), fun _ => ⟨rfl, rfl⟩, (fun j x hx => by cases hx), hF, hFp, hFa, hR, hRp, hRa⟩
theorem u8_row {w : World} {g : Nat} {L : List Nat} (h : w.row? g = some (u8L L).toArray) (hb : ∀ x ∈ L, x < 256) : U8At w g 0 L := fun j x hx =>
  ⟨by rw [row_cell h, Nat.zero_add]; unfold u8L; simp [hx], hb x (List.mem_of_getElem? hx)⟩
theorem flat_at {α : Type} (c : Nat) (F : α → List Value) (hF : ∀ x, (F x).length = c) : ∀ (L : List α) (tl : List Value) (j : Nat) (x : α) (i : Nat) (u : Value), L[j]? = some x → (F x)[i]? = some u → (L.flatMap F ++ tl)[j * c + i]? = some u
  | [], tl, j, x, i, u, hx, hu => by simp at hx
  | y :: L, tl, j, x, i, u, hx, hu => by
    rw [List.flatMap_cons, List.append_assoc]
    have hi : i < c := by rw [← hF x]; exact (List.getElem?_eq_some_iff.1 hu).1
    rcases j with _ | j
    · obtain rfl := Option.some.inj hx
      rw [Nat.zero_mul, Nat.zero_add, List.getElem?_append_left (by rw [hF]; exact hi)]
      exact hu
    · rw [List.getElem?_append_right (by rw [hF, Nat.add_mul]; omega), hF, show (j + 1) * c + i - c = j * c + i by rw [Nat.add_mul]; omega]
      exact flat_at c F hF L tl j x i u hx hu
theorem dfs_row {w : World} {g : Nat} {L : List Df} {tl : List Value} (h : w.row? g = some (L.flatMap DfC ++ tl).toArray) (hb : ∀ d ∈ L, d.at_ < 4294967296) : DfsAt w g 0 L := fun j d hd =>
  ⟨fun i u hu => by rw [row_cell h, Nat.zero_add, List.getElem?_toArray]; exact flat_at 3 DfC (fun _ => rfl) L tl j d i u hd hu, hb d (List.mem_of_getElem? hd)⟩
theorem rfs_row {w : World} {g : Nat} {L : List Rf} {tl : List Value} (h : w.row? g = some (L.flatMap RfC ++ tl).toArray) (hb : ∀ d ∈ L, d.at_ < 4294967296 ∧ d.add < 4294967296) : RfsAt w g 0 L := fun j d hd =>
  ⟨fun i u hu => by rw [row_cell h, Nat.zero_add, List.getElem?_toArray]; exact flat_at 5 RfC (fun _ => rfl) L tl j d i u hd hu, (hb d (List.mem_of_getElem? hd)).1, (hb d (List.mem_of_getElem? hd)).2⟩
theorem none_at (w : World) (b o : Nat) : RfsAt w b o [] := fun j r hr => by simp at hr
theorem one_at {w : World} {b : Nat} {s : Ob} (h : w.row? b = some (obA s)) (hs : ObOk w s) : ObsAt w b 0 [s] := fun j t ht => by
  rcases j with _ | j
  · obtain rfl := Option.some.inj ht
    exact ⟨fun i u hu => by rw [row_cell h, ← hu]; simp, hs⟩
  · simp at ht
theorem fitL_at {w : World} {g b : Nat} (h1 : w.row? g = some #[.int .u8 1, .int .u8 2, .int .u8 3, .int .u8 4]) (h2 : w.row? (g + 1) = some (DfC stD).toArray) (h3 : w.row? b = some (obA (obM (some ⟨g, 0, none⟩) g 4 [1, 2, 3, 4] (some ⟨g + 1, 0, none⟩) (g + 1) 1 1 [stD] none 0 0 0 []))) : ObsAt w b 0 (fitL g) :=
  one_at h3 (obM_ok rfl (fun _ => rfl) (fun h => by cases h) (u8_row h1 (by decide)) rfl (fun _ => rfl) (dfs_row (tl := []) (by rw [h2]; rfl) (by simp [stD])) rfl (fun h => absurd h (Nat.lt_irrefl 0)) (none_at _ _ _))
set_option maxRecDepth 100000 in
set_option maxHeartbeats 3200000 in
theorem fit_all (W : World) : Calls Try.prog 7 #[] W fun e w' => e = .returned (.bool true) ∧ Chg [] W w' := by
  go_enter Try.func7, Try.ntmps7
  go_wp2_with fail
  obtain ⟨V, hV⟩ : ∃ V, V = ((W.alloc (.cells #[.int .u8 1, .int .u8 2, .int .u8 3, .int .u8 4] 5)).alloc (.cells #[.string ⟨#[115, 116, 97, 114, 116]⟩, .int .i64 0, .int .u32 0] 55)).alloc (.cells #[.slice (some ⟨W.heap.size, 0, none⟩) 4 4, .slice none 0 0, .int .u32 0, .slice (some ⟨W.heap.size + 1, 0, none⟩) 1 1, .slice none 0 0] 53) := ⟨_, rfl⟩
  obtain ⟨g, hg⟩ : ∃ g, g = W.heap.size := ⟨_, rfl⟩
  have h1 : V.row? g = some #[.int .u8 1, .int .u8 2, .int .u8 3, .int .u8 4] := by
    rw [hV, row_alloc_past _ _ _ (by simp; omega), row_alloc_past _ _ _ (by simp; omega)]; exact row_alloc_at _ _ _ _ hg
  have h2 : V.row? (g + 1) = some (DfC stD).toArray := by
    rw [hV, row_alloc_past _ _ _ (by simp; omega)]; exact row_alloc_at _ _ _ _ (by simp; omega)
  have h3 : V.row? (g + 1 + 1) = some (obA (obM (some ⟨g, 0, none⟩) g 4 [1, 2, 3, 4] (some ⟨g + 1, 0, none⟩) (g + 1) 1 1 [stD] none 0 0 0 [])) := by
    rw [hV, hg]; exact row_alloc_at _ _ _ _ (by simp)
  have HCV : Hid (Chg [] W V) := Lib.hid (by rw [hV]; exact (((Chg.refl _ _).alloc _).alloc _).alloc _)
  have HAT := Lib.hid (fitL_at h1 h2 h3)
  rw [← hV, ← hg]
  clear hV hg h1 h2 h3
  refine (link_any (c := 1) HAT.out rfl (fun _ => rfl) (by intro s hs r hr; simp [fitL] at hs; subst hs; simp [obM] at hr)).mono ?_
  rintro e w2 hpost
  obtain ⟨v, rfl, hf, hc⟩ := post_ok hpost (fitL_err g)
  obtain ⟨vg, vr, vs, hv, hs, hr, hss⟩ := hf.ex
  have hv2 : v = #[Value.int .u32 256, vg, vr, vs] := hv.trans (congrArg (fun q : Nat => #[Value.int .u32 (q : Int), vg, vr, vs]) (fitL_entry g))
  clear hv
  subst hv2
  obtain ⟨vc, vd, -, -, hs3⟩ := hs.ex
  rw [fitL_seg g] at hs3
  rw [fitL_sym g] at hss
  obtain ⟨pg, cg, rfl, -⟩ := own_form hs3
  obtain ⟨ps, cs, rfl, -⟩ := own_form hss
  obtain ⟨pr, cr, rfl, -⟩ := own_form hr
  have HC2 := Lib.hid (HCV.out.trans hc)
  clear hs hr hss hs3 hf hc hpost
  generalize (refsL (fitL g)).length = nr
  go_upto_region 2 with (first | (refine wpList_store_new a30 _ _ rfl rfl rfl rfl rfl rfl rfl rfl ?_))
  go_wp2
  go_ret
  exact ⟨rfl, HC2.out.alloc _⟩
end Go.Proofs.L
