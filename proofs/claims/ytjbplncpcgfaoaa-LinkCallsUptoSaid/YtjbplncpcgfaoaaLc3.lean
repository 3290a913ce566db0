/- Proved here: lemmas and contracts (Lc3) for the laws of this seat, for all values of the stated types; no further condition. -/
import Derived.Test.YtjbplncpcgfaoaaLc2
import Derived.Laws.AppendOwnNone
open Go Go.RowKit Go.Lib Go.Maps
namespace Go.Proofs.L
attribute [local irreducible] wpT
/-! LinkCalls: slices of bytes in a slice; an append of any source -/
theorem app_srcV {P : Program} {w : World} {ops : Array Oper} {rest : List Oper} {o : Oper} {a : Act} {Q : Exit → Act → World → Prop} (hgd : o.guard = none) (d : Option Tmp) (hd : o.dst = d) (s x : Operand) (t e : TypeId) (z : Value) (bytes : Nat)
    (ho : o.op = .call { callee := .builtin .append, args := #[s, x], argTypes := #[t, t] }) (ht : P.underlying t = some (.slice e)) (hI : (P.info? e).map (fun i => (i.zero, i.size, i.bytes)) = some (some z, 1, bytes)) (hzs : z.cells.size = 1) (hb8 : bytes ≤ 128)
    (base : Nat) (v : Value) (n : Nat) (xs : List Value) (hs : a.eval s = v) (hown : w.ownsRow base e 1 v n xs)
    (pp : Option Addr) (m c : Nat) (news : List Value) (hx : a.eval x = .slice pp m c) (hl : news.length = m) (hnone : pp = none → m = 0 ∧ c = 0) (hsome : ∀ ad, pp = some ad → ∀ j u, news[j]? = some u → w.cell? (ad.add j) = some u) (h1 : ∀ u ∈ news, u.oneCell' = true) (hn : n + m < 100000000) (hbase : base ≤ w.heap.size)
    (h : ∀ v' w', w'.ownsRow base e 1 v' (n + m) (xs ++ news) → w.grownBy w' v.ownBlock → (∀ g, v'.ownBlock = some g → v.ownBlock = some g ∨ w.heap.size ≤ g) → wpList P ops Q rest (a.put d v') w') : wpList P ops Q (o :: rest) a w := by
  subst hd
  obtain ⟨i, hi, hz, h2, h3⟩ := info_parts hI
  cases pp with
  | none =>
    obtain ⟨rfl, rfl⟩ := hnone rfl
    obtain rfl := List.eq_nil_of_length_eq_zero hl
    exact wpList_append_own_none hgd s x t ho base e i 1 ht hi v n _ hs hown hx (h v w (by simpa using hown) (World.grownBy.refl _ _) fun g hg => .inl hg)
  | some ad =>
    by_cases hm : 0 < m
    · refine wpList_append_lies w hgd s x t ho base e i z 1 bytes ht hi hz h2 h3 hzs (by decide) v n _ hs hown ad m c news hx (by rw [Nat.mul_one]; exact hl) (hsome ad rfl) h1 hm (by unfold maxLen; omega) (by
        have : (n + m) * bytes ≤ 100000000 * 128 := Nat.mul_le_mul (by omega) hb8
        omega) hbase _ rfl (fun g cap w' q1 q2 q3 _ => h _ w' q1 q2 (fun g' hg' => by
          simp only [Value.ownBlock] at hg'
          obtain rfl := Option.some.inj hg'
          exact q3.imp id (fun e => Nat.le_of_eq e.symm)))
    · obtain rfl : m = 0 := by omega
      obtain rfl := List.eq_nil_of_length_eq_zero hl
      have hv : ∃ b cap, v = .slice b n cap ∧ n ≤ cap := by
        rcases hown.2 with ⟨h1, h2⟩ | ⟨g, cap, cur, h1, _, _, h2, _⟩
        · exact ⟨none, 0, by rw [h1, h2], by omega⟩
        · exact ⟨_, cap, h1, h2⟩
      obtain ⟨b, cap, hv, hc⟩ := hv
      refine wpList_plain hgd fun K hK => ?_
      have hrun := run_append_zero (P := P) w t o.type e i ht hi b n cap hc (some ad) c
      unfold Oper.wp execOp
      simp only [ho, resolve, invoke, builtin, Sem.run_bind, Sem.run_pure, Result.andThen_ok, List.map_toArray, List.map_cons, List.map_nil, hs, hx]
      rw [hv, hrun]
      exact hK _ _ (h _ w (by rw [← hv]; simpa using hown) (World.grownBy.refl _ _) fun g hg => .inl (by rw [hv]; exact hg))
structure By where
  (p : Option Addr) (b o n c : Nat) (L : List Nat)
def ByOk (w : World) (t : By) : Prop := t.L.length = t.n ∧ (0 < t.n → t.p = some ⟨t.b, t.o, none⟩) ∧ (t.p = none → t.n = 0 ∧ t.c = 0) ∧ U8At w t.b t.o t.L ∧ t.n ≤ 2000000
def BysAt (w : World) (b o : Nat) (Ts : List By) : Prop := ∀ (j : Nat) (t : By), Ts[j]? = some t → w.cell? ⟨b, o + j, none⟩ = some (.slice t.p t.n t.c) ∧ ByOk w t
theorem ByOk.keep {w w' : World} {t : By} (h : ByOk w t) (hc : Chg [] w w') : ByOk w' t :=
  ⟨h.1, h.2.1, h.2.2.1, fun j x hx => ⟨keepc (h.2.2.2.1 j x hx).1 hc (by simp), (h.2.2.2.1 j x hx).2⟩, h.2.2.2.2⟩
theorem BysAt.keep {w w' : World} {b o : Nat} {Ts : List By} (h : BysAt w b o Ts) (hc : Chg [] w w') : BysAt w' b o Ts := fun j t hj =>
  ⟨keepc (h j t hj).1 hc (by simp), (h j t hj).2.keep hc⟩
def slV (Ts : List By) : List Value := Ts.map fun t => .slice t.p t.n t.c
theorem slV_one (Ts : List By) : ∀ u ∈ slV Ts, u.oneCell' = true := by
  intro u hu
  unfold slV at hu
  rw [List.mem_map] at hu
  obtain ⟨t, -, rfl⟩ := hu
  rfl
/-- the lengths so far -/
def sumB (Ts : List By) : Nat := (Ts.map fun t => 4 + t.n).sum
theorem sumB_take {Ts : List By} {j : Nat} {t : By} (h : Ts[j]? = some t) : sumB (Ts.take (j + 1)) = sumB (Ts.take j) + (4 + t.n) := by
  unfold sumB; rw [List.take_add_one, h]; simp
theorem sumB_app (A B : List By) : sumB (A ++ B) = sumB A + sumB B := by unfold sumB; simp
theorem sumB_ge (A : List By) : 4 * A.length ≤ sumB A := by
  induction A with
  | nil => simp [sumB]
  | cons x r ih => unfold sumB at *; simp; omega
theorem w64addN {a b q : Nat} (h : a + b = q) (h2 : q < 9000000000000000000) : wrap64 ((a : Int) + (b : Int)) = (q : Int) := by
  rw [IntWalk.wrap64_in _ ⟨by omega, by omega⟩]; omega
theorem w64idN {a : Nat} (h : a < 9000000000000000000) : wrap64 (a : Int) = (a : Int) := IntWalk.wrap64_in _ ⟨by omega, by omega⟩
theorem info36v : (Try.prog.info? 36).map (fun i => (i.zero, i.size, i.bytes)) = some (some (.slice none 0 0), 1, 24) := by kernel_rfl
theorem u32b' (a : Nat) (h : a < 4294967296) : (BitVec.ofInt 32 (a : Int)).toNat = a := by
  rw [BitVec.toNat_ofInt]; omega
theorem andNot3 (a : Nat) (ha : a < 4294967296) : bits .andNot .u32 (a : Int) 3 = ((a / 4 * 4 : Nat) : Int) := by
  show IntKind.u32.wrap ((BitVec.ofInt 32 (a : Int) &&& ~~~ BitVec.ofInt 32 ((3 : Nat) : Int)).toNat : Int) = _
  have h : (BitVec.ofInt 32 (a : Int) &&& ~~~ BitVec.ofInt 32 ((3 : Nat) : Int)).toNat = a / 4 * 4 := by
    rw [BitVec.toNat_and, BitVec.toNat_not, u32b' a ha, u32b' _ (by decide)]
    apply Nat.eq_of_testBit_eq
    intro i
    rw [Nat.testBit_and, show a / 4 * 4 = 2 ^ 2 * (a / 2 ^ 2) by omega, Nat.testBit_two_pow_mul, Nat.testBit_div_two_pow, show 2 ^ 32 - 1 - 3 = 2 ^ 2 * (2 ^ 30 - 1) by decide, Nat.testBit_two_pow_mul, Nat.testBit_two_pow_sub_one]
    by_cases h : i < 32
    · by_cases h2 : 2 ≤ i
      · simp [h2, show i - 2 < 30 by omega]
      · simp [h2]
    · rw [Nat.testBit_lt_two_pow (x := a) (by have : (2:Nat) ^ 32 ≤ 2 ^ i := Nat.pow_le_pow_right (by decide) (by omega); omega)]
      by_cases h2 : 2 ≤ i
      · rw [show a.testBit (i - 2 + 2) = a.testBit i by rw [show i - 2 + 2 = i by omega], Nat.testBit_lt_two_pow (x := a) (by have : (2:Nat) ^ 32 ≤ 2 ^ i := Nat.pow_le_pow_right (by decide) (by omega); omega)]
        simp
      · omega
  rw [h]
  exact u32id (by omega) (by omega)
def zBy : By := ⟨none, 0, 0, 0, 0, []⟩
/-- the law's object -/
def obQ (g cc gd cd gr n i : Nat) (t u : By) : Ob :=
  ⟨some ⟨g, 0, none⟩, g, 0, 4 + t.n, cc, [0, 0, 0, 0] ++ t.L, u.p, u.b, u.o, u.n, u.c, u.L, 0, some ⟨gd, 0, none⟩, gd, 0, (dfsC i).length, cd, dfsC i, some ⟨gr, 0, none⟩, gr, 0, 1, 1, rfsC n i⟩
def ShQ (n i : Nat) (t u : By) (s : Ob) : Prop := ∃ g cc gd cd gr, s = obQ g cc gd cd gr n i t u
structure PartsC (w : World) (s : Ob) : Prop where
  ca : U8At w s.bc 0 s.C
  fa : DfsAt w s.bf 0 s.F
  ra : RfsAt w s.br 0 s.R
  l1 : s.bc < w.heap.size
  l2 : s.bf < w.heap.size
  l3 : s.br < w.heap.size
theorem PartsC.keep {E : List Nat} {w w' : World} {s : Ob} (h : PartsC w s) (hc : Chg E w w') (h1 : s.bc ∉ E) (h2 : s.bf ∉ E) (h3 : s.br ∉ E) : PartsC w' s :=
  ⟨fun j x hx => ⟨keepc (h.ca j x hx).1 hc h1, (h.ca j x hx).2⟩, fun j d hd => ⟨fun i u hu => keepc ((h.fa j d hd).1 i u hu) hc h2, (h.fa j d hd).2⟩, fun j d hd => ⟨fun i u hu => keepc ((h.ra j d hd).1 i u hu) hc h3, (h.ra j d hd).2⟩, Nat.lt_of_lt_of_le h.l1 hc.size, Nat.lt_of_lt_of_le h.l2 hc.size, Nat.lt_of_lt_of_le h.l3 hc.size⟩
theorem obQ_ok {w : World} {n i : Nat} {t u : By} {s : Ob} (hs : ShQ n i t u s) (hp : PartsC w s) (ht : t.L.length = t.n) (hu : ByOk w u) : ObOk w s := by
  obtain ⟨g, cc, gd, cd, gr, rfl⟩ := hs
  exact ⟨by show (0 : Nat) < _; decide, by simp [obQ, ht]; omega, fun _ => rfl, (fun h => by cases h), hp.ca, hu.1, hu.2.1, hu.2.2.1, hu.2.2.2.1, rfl, fun _ => rfl, hp.fa, rfl, fun _ => rfl, hp.ra⟩
theorem obQ_sh {n i : Nat} {C D : List (List Nat)} {t u : By} {s : Ob} (hs : ShQ n i t u s) (h1 : C.getD i [] = t.L) (h2 : D.getD i [] = u.L) (h3 : t.L.length = t.n) (h4 : u.L.length = u.n) : ShC n C D i s := by
  obtain ⟨g, cc, gd, cd, gr, rfl⟩ := hs
  exact ⟨by rw [h1, h3]; rfl, by rw [h1]; rfl, by rw [h2, h4]; rfl, by rw [h2]; rfl, rfl, rfl, rfl, rfl, rfl⟩
theorem zBy_ok (w : World) : ByOk w zBy := ⟨rfl, fun h => absurd h (Nat.lt_irrefl 0), fun _ => ⟨rfl, rfl⟩, fun j x hx => by simp [zBy] at hx, by decide⟩
theorem conv_nmC (w : World) (j : Nat) : (convert 36 9 (.slice (some ⟨w.heap.size, 0, none⟩) 1 1)).run Try.prog (w.alloc (.cells #[.int .u8 (97 + (j : Int))] 5)) = .ok (.string (nmC j)) (w.alloc (.cells #[.int .u8 (97 + (j : Int))] 5)) := by
  have h := run_convert_bytes_arg (P := Try.prog) (w.alloc (.cells #[.int .u8 (97 + (j : Int))] 5)) 36 5 Try.underlying36 Try.underlying5 w.heap.size 0 1 1 [97 + (j : Int)] rfl (fun i hi => by
    rw [row_cell (row_alloc_at _ _ _ _ rfl), Nat.zero_add]
    rcases i with _ | i
    · rfl
    · omega) 9 Try.underlying9
  have e : nmC j = strOfNums [97 + (j : Int)] := by unfold nmC; rw [show ((97 + j : Nat) : Int) = 97 + (j : Int) by omega]
  rw [e]
  exact h
theorem flat_atC {α : Type} (c : Nat) (F : α → List Value) (hF : ∀ x, (F x).length = c) : ∀ (L : List α) (j : Nat) (x : α) (i : Nat) (u : Value), L[j]? = some x → (F x)[i]? = some u → (L.flatMap F)[j * c + i]? = some u
  | [], j, x, i, u, hx, hu => by simp at hx
  | y :: L, j, x, i, u, hx, hu => by
    rw [List.flatMap_cons]
    have hi : i < c := by rw [← hF x]; exact (List.getElem?_eq_some_iff.1 hu).1
    rcases j with _ | j
    · obtain rfl := Option.some.inj hx
      rw [Nat.zero_mul, Nat.zero_add, List.getElem?_append_left (by rw [hF]; exact hi)]
      exact hu
    · rw [List.getElem?_append_right (by rw [hF, Nat.add_mul]; omega), hF, show (j + 1) * c + i - c = j * c + i by rw [Nat.add_mul]; omega]
      exact flat_atC c F hF L j x i u hx hu
theorem own_u8C {w : World} {base n g : Nat} {v : Value} {L : List Nat} (h : w.ownsRow base 5 1 v n (u8L L)) (hg : v.ownBlock = some g) (hb : ∀ x ∈ L, x < 256) : U8At w g 0 L := fun j x hx =>
  ⟨by rw [Nat.zero_add]; exact cellsAt h hg j _ (by unfold u8L; rw [List.getElem?_map, hx]; rfl), hb x (List.mem_of_getElem? hx)⟩
theorem own_dfC {w : World} {base n g : Nat} {v : Value} {L : List Df} (h : w.ownsRow base 55 3 v n (L.flatMap DfC)) (hg : v.ownBlock = some g) (hb : ∀ d ∈ L, d.at_ < 4294967296) : DfsAt w g 0 L := fun j d hd =>
  ⟨fun i u hu => by
    have h2 := flat_atC 3 DfC (fun _ => rfl) L j d i u hd hu
    rw [Nat.zero_add]
    exact cellsAt h hg _ _ h2, hb d (List.mem_of_getElem? hd)⟩
/-- the objects so far -/
structure LsQ (w : World) (S n : Nat) (T1 T2 : List By) (v : Value) (L : List Ob) : Prop where
  own : w.ownsRow S 53 5 v L.length (L.flatMap fun s => (obA s).toList)
  sh : ∀ k s, L[k]? = some s → ShQ n k (T1.getD k zBy) (T2.getD k zBy) s ∧ PartsC w s
  ap : ∀ gb, v.ownBlock = some gb → ∀ s ∈ L, gb ≠ s.bc ∧ gb ≠ s.bf ∧ gb ≠ s.br
theorem LsQ.keep {w w' : World} {S n : Nat} {T1 T2 : List By} {v : Value} {L : List Ob} (h : LsQ w S n T1 T2 v L) (hc : Chg [] w w') : LsQ w' S n T1 T2 v L :=
  ⟨ownsRow_chg h.own hc (by intro k _; simp), fun k s hk => ⟨(h.sh k s hk).1, (h.sh k s hk).2.keep hc (by simp) (by simp) (by simp)⟩, h.ap⟩
theorem LsQ.more {w w' : World} {S n : Nat} {T1 T2 : List By} {v v' : Value} {L : List Ob} {s : Ob} (h : LsQ w S n T1 T2 v L) (h1 : w'.ownsRow S 53 5 v' (L.length + 1) ((L.flatMap fun s => (obA s).toList) ++ (obA s).toList)) (h2 : w.grownBy w' v.ownBlock)
    (h3 : ∀ g, v'.ownBlock = some g → v.ownBlock = some g ∨ w.heap.size ≤ g) (hs : ShQ n L.length (T1.getD L.length zBy) (T2.getD L.length zBy) s) (hp : PartsC w s) (hn : ∀ gb, v.ownBlock = some gb → gb ≠ s.bc ∧ gb ≠ s.bf ∧ gb ≠ s.br) : LsQ w' S n T1 T2 v' (L ++ [s]) := by
  have hc := grown_chg h2
  have key : ∀ x, PartsC w x → (∀ gb, v.ownBlock = some gb → gb ≠ x.bc ∧ gb ≠ x.bf ∧ gb ≠ x.br) → PartsC w' x ∧ ∀ gb, v'.ownBlock = some gb → gb ≠ x.bc ∧ gb ≠ x.bf ∧ gb ≠ x.br := fun x hx hne => by
    refine ⟨hx.keep hc (by rw [Option.mem_toList]; intro e; exact (hne _ e).1 rfl) (by rw [Option.mem_toList]; intro e; exact (hne _ e).2.1 rfl) (by rw [Option.mem_toList]; intro e; exact (hne _ e).2.2 rfl), fun gb hgb => ?_⟩
    rcases h3 gb hgb with e | e
    · exact hne gb e
    · have := hx.l1; have := hx.l2; have := hx.l3; exact ⟨by omega, by omega, by omega⟩
  refine ⟨by rw [List.length_append, List.flatMap_append]; simpa using h1, fun k x hk => ?_, fun gb hgb x hx => ?_⟩
  · rcases Nat.lt_or_ge k L.length with hlt | hge
    · rw [List.getElem?_append_left hlt] at hk
      exact ⟨(h.sh k x hk).1, (key x (h.sh k x hk).2 (fun gb hgb => h.ap gb hgb x (List.mem_of_getElem? hk))).1⟩
    · rw [List.getElem?_append_right hge] at hk
      have hk0 : k - L.length = 0 := by
        have := (List.getElem?_eq_some_iff.1 hk).1; simp at this; omega
      rw [hk0] at hk
      obtain rfl := Option.some.inj hk
      obtain rfl : k = L.length := by omega
      exact ⟨hs, (key s hp hn).1⟩
  · rcases List.mem_append.1 hx with h5 | h5
    · obtain ⟨k, hk⟩ := List.mem_iff_getElem?.1 h5
      exact (key x (h.sh k x hk).2 (fun gb hgb => h.ap gb hgb x h5)).2 gb hgb
    · obtain rfl := List.mem_singleton.1 h5
      exact (key x hp hn).2 gb hgb
theorem u8c (m : Nat) (h : m < 100) : IntKind.u8.wrap (97 + (m : Int)) = 97 + (m : Int) := by simp [IntKind.wrap, IntKind.bits, IntKind.signed]; omega
theorem w64c (m : Nat) (h : m < 100) : wrap64 (97 + (m : Int)) = 97 + (m : Int) := IntWalk.wrap64_in _ ⟨by omega, by omega⟩
theorem modc (j n m : Nat) (hn : 0 < n) (hm : m = (j + 1) % n) : (((j + 1 : Nat)) : Int).tmod (n : Int) = (m : Int) ∧ ((j : Int) + 1).tmod (n : Int) = (m : Int) ∧ ((j : Int) + 1) % (n : Int) = (m : Int) ∧ m < n := by
  have e : ((j : Int) + 1) % (n : Int) = (m : Int) := by rw [hm]; exact (Int.natCast_emod (j + 1) n).symm
  refine ⟨?_, ?_, e, by rw [hm]; exact Nat.mod_lt _ hn⟩
  · rw [Int.tmod_eq_emod_of_nonneg (by omega)]; exact e
  · rw [Int.tmod_eq_emod_of_nonneg (by omega)]; exact e
theorem u32c (j : Nat) (h : j < 100) : IntKind.u32.wrap (j : Int) = (j : Int) ∧ (j : Int) % 4294967296 = (j : Int) := ⟨u32id (by omega) (by omega), by omega⟩
end Go.Proofs.L
