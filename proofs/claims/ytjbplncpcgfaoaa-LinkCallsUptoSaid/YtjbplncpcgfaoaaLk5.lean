/- Proved here: lemmas and contracts (Lk5) for the laws of this seat, for all values of the stated types; no further condition. -/
import Derived.Test.YtjbplncpcgfaoaaLk4
import Derived.Maps.OwnOps
import Derived.Maps.OwnSet
import Derived.Maps.Views
import Derived.StringKeys
open Go Go.RowKit Go.Lib Go.Maps
namespace Go.Proofs.L
attribute [local irreducible] wpT
/-! names and their numbers: the program's map -/
def numP : List (ByteArray × Nat) → ByteArray → Nat
  | [], _ => 0
  | (t, _) :: r, s => if t = s then 1 else if numP r s = 0 then 0 else numP r s + 1
theorem numP_app (t : ByteArray) (x : Nat) (s : ByteArray) : ∀ P, numP (P ++ [(t, x)]) s = if numP P s = 0 then (if t = s then P.length + 1 else 0) else numP P s
  | [] => by simp [numP]
  | (u, y) :: P => by
    have ih := numP_app t x s P
    show (if u = s then 1 else if numP (P ++ [(t, x)]) s = 0 then 0 else numP (P ++ [(t, x)]) s + 1) = if (if u = s then 1 else if numP P s = 0 then 0 else numP P s + 1) = 0 then (if t = s then P.length + 1 + 1 else 0) else (if u = s then 1 else if numP P s = 0 then 0 else numP P s + 1)
    by_cases h : u = s
    · simp [h]
    · rw [if_neg h, if_neg h, ih]
      by_cases h2 : numP P s = 0
      · rw [if_pos h2, if_pos h2, if_pos rfl]
        by_cases h3 : t = s
        · simp [h3]
        · simp [h3]
      · simp [h2]
theorem numP_le (s : ByteArray) : ∀ P, numP P s ≤ P.length
  | [] => by simp [numP]
  | (t, x) :: P => by
    have := numP_le s P
    simp only [numP, List.length_cons]
    split; omega; split <;> omega
theorem numP_get {s : ByteArray} : ∀ {P : List (ByteArray × Nat)} {k : Nat}, numP P s = k + 1 → ∃ x, P[k]? = some (s, x)
  | [], k, h => by simp [numP] at h
  | (t, x) :: P, k, h => by
    simp only [numP] at h
    by_cases e : t = s
    · rw [if_pos e] at h
      obtain rfl : k = 0 := by omega
      exact ⟨x, by rw [e]; rfl⟩
    · rw [if_neg e] at h
      by_cases h2 : numP P s = 0
      · rw [if_pos h2] at h; omega
      · rw [if_neg h2] at h
        obtain ⟨j, rfl⟩ : ∃ j, k = j + 1 := ⟨k - 1, by omega⟩
        have h3 : numP P s = j + 1 := by omega
        obtain ⟨y, hy⟩ := numP_get h3
        exact ⟨y, by simpa using hy⟩
def nodupB (P : List (ByteArray × Nat)) : Bool := decide (P.map (·.1)).Nodup
theorem numP_mem {s : ByteArray} : ∀ {P : List (ByteArray × Nat)}, numP P s ≠ 0 ↔ s ∈ P.map (·.1)
  | [] => by simp [numP]
  | (t, x) :: P => by
    simp only [numP, List.map_cons, List.mem_cons]
    have ih := numP_mem (s := s) (P := P)
    by_cases e : t = s
    · simp [e]
    · rw [if_neg e, ← ih]
      constructor
      · intro h; right; intro h2; exact h (by simp [h2])
      · intro h
        rcases h with h | h
        · exact absurd h.symm e
        · simp [h]
theorem nodup_app (t : ByteArray) (x : Nat) (P : List (ByteArray × Nat)) : ((P ++ [(t, x)]).map (·.1)).Nodup ↔ (P.map (·.1)).Nodup ∧ numP P t = 0 := by
  rw [List.map_append, List.nodup_append]
  have h := numP_mem (s := t) (P := P)
  constructor
  · rintro ⟨h1, _, h3⟩
    refine ⟨h1, ?_⟩
    by_cases e : numP P t = 0
    · exact e
    · exact absurd rfl (h3 t (h.1 e) t (by simp))
  · rintro ⟨h1, h2⟩
    refine ⟨h1, by simp, ?_⟩
    intro a ha b hb e
    simp at hb
    subst hb e
    exact h.2 ha h2
def keyS (s : ByteArray) : Lit := .string s.data.toList
theorem kd9 : Keyed Try.prog 9 := string_keyed Try.underlying9
theorem ze3 (w : World) : (zeroValue 3).run Try.prog w = .ok (.int .i64 0) w := by kernel_rfl
theorem keyS_ne {s t : ByteArray} (h : s ≠ t) : keyS s ≠ keyS t := by
  unfold keyS
  intro e
  injection e with e
  apply h
  obtain ⟨⟨a⟩⟩ := s
  obtain ⟨⟨b⟩⟩ := t
  simp only at e
  rw [e]
theorem keyS_lit (s : ByteArray) : WideAt.IsKeyLit (keyS s) := by unfold keyS; first | exact trivial | exact True.intro | (simp [WideAt.IsKeyLit])
theorem key9 (s : ByteArray) (h : s.size ≤ 32) : keyOf Try.prog 9 (.string s) = some (keyS s) := Go.WideMaps.keyOf_string_mk Try.underlying9 (by unfold maxLen; omega)
structure MapS (D : DataW Unit) (P : List (ByteArray × Nat)) : Prop where
  at_ : ∀ s, D.atKey (keyS s) (.lit (.int .i64 0)) = .lit (.int .i64 (numP P s : Int))
  has_ : ∀ s, has D (keyS s) = decide (numP P s ≠ 0)
  map_ : IsMap D
def NumAt (w : World) (m : Nat) (P : List (ByteArray × Nat)) : Prop := ∃ D : DataW Unit, w.ownsMap Try.prog 9 (plainElem Try.prog 3) m P.length D ∧ MapS D P
theorem MapS.put {D : DataW Unit} {P : List (ByteArray × Nat)} (h : MapS D P) (t : ByteArray) (x : Nat) (ht : numP P t = 0) : MapS (D.put (keyS t) (.lit (.int .i64 ((P.length + 1 : Nat) : Int)))) (P ++ [(t, x)]) where
  at_ s := by
    by_cases e : s = t
    · subst e
      rw [atKey_put_same h.map_ (keyS_lit s), numP_app, if_pos ht, if_pos rfl]
    · rw [atKey_put_other (keyS_ne e), h.at_ s, numP_app]
      by_cases h2 : numP P s = 0
      · rw [if_pos h2, if_neg (fun h => e h.symm), h2]
      · rw [if_neg h2]
  has_ s := by
    by_cases e : s = t
    · subst e
      rw [has_put_same h.map_ (keyS_lit s), numP_app, if_pos ht, if_pos rfl]
      simp
    · rw [has_put_other (keyS_ne e), h.has_ s, numP_app]
      by_cases h2 : numP P s = 0
      · rw [if_pos h2, if_neg (fun h => e h.symm), h2]
      · rw [if_neg h2]
  map_ := h.map_.put _ _
theorem ownsMap_chg {E : List Nat} {w w' : World} {P : Program} {k : TypeId} {R : Value → Option (DataW Unit × List MemPlace)} {b n : Nat} {D : DataW Unit} (h : w.ownsMap P k R b n D) (hc : Chg E w w') (hE : b ∉ E) : w'.ownsMap P k R b n D := by
  have hlt := h.lt
  obtain ⟨es, clock, hb, rest⟩ := h
  exact ⟨es, clock, (hc.block b hlt hE).trans hb, rest⟩
theorem NumAt.keep {E : List Nat} {w w' : World} {m : Nat} {P : List (ByteArray × Nat)} (h : NumAt w m P) (hc : Chg E w w') (hm : m ∉ E) : NumAt w' m P := by
  obtain ⟨D, h1, h2⟩ := h
  exact ⟨D, ownsMap_chg h1 hc hm, h2⟩
theorem NumAt.lt {w : World} {m : Nat} {P : List (ByteArray × Nat)} (h : NumAt w m P) : m < w.heap.size := by
  obtain ⟨D, h1, h2⟩ := h
  exact h1.lt
structure Rl where
  (at_ : Nat) (ty : Int) (sym : Nat) (add : Nat)
def RlC (r : Rl) : List Value := [.int .u32 (r.at_ : Int), .int .i64 r.ty, .int .i64 (r.sym : Int), .int .u32 (r.add : Int)]
def symC (P : List (ByteArray × Nat)) : List Value := (0 :: P.map (·.2)).map fun x : Nat => Value.int .u32 (x : Int)
theorem symC_app (P : List (ByteArray × Nat)) (t : ByteArray) (x : Nat) : symC (P ++ [(t, x)]) = symC P ++ [.int .u32 (x : Int)] := by
  unfold symC; simp
/-- the file under way, and the map -/
structure Lk (w : World) (H0 F m : Nat) (P : List (ByteArray × Nat)) (Rs : List Rl) : Prop where
  ex : ∃ vs vr, w.row? F = some #[.int .u32 0, .slice none 0 0, vr, vs] ∧ w.ownsRow H0 25 1 vs (P.length + 1) (symC P) ∧ w.ownsRow H0 44 4 vr Rs.length (Rs.flatMap RlC) ∧
    (∀ g, vs.ownBlock = some g → g ≠ F ∧ g ≠ m) ∧ (∀ g, vr.ownBlock = some g → g ≠ F ∧ g ≠ m ∧ vs.ownBlock ≠ some g)
  num : NumAt w m P
  ne : F ≠ m
  hF : H0 ≤ F
  hm : H0 ≤ m
theorem Lk.keep {w w' : World} {H0 F m : Nat} {P : List (ByteArray × Nat)} {Rs : List Rl} (h : Lk w H0 F m P Rs) (hc : Chg [] w w') : Lk w' H0 F m P Rs := by
  obtain ⟨vs, vr, h1, h2, h3, h4, h5⟩ := h.ex
  exact ⟨⟨vs, vr, (hc.row (row_lt h1) (by simp)).trans h1, ownsRow_chg h2 hc (by intro k _; simp), ownsRow_chg h3 hc (by intro k _; simp), h4, h5⟩, h.num.keep hc (by simp), h.ne, h.hF, h.hm⟩
theorem app_structL {P : Program} {w : World} {ops : Array Oper} {rest : List Oper} {o : Oper} {a : Act} {Q : Exit → Act → World → Prop} (hgd : o.guard = none) (s x : Operand) (t e : TypeId) (z : Value) (size bytes : Nat)
    (ho : o.op = .call { callee := .builtin .append, args := #[s, x], argTypes := #[t, t] }) (ht : P.underlying t = some (.slice e)) (hI : (P.info? e).map (fun i => (i.zero, i.size, i.bytes)) = some (some z, size, bytes)) (hzs : z.cells.size = size) (hsz : 0 < size) (hb8 : bytes ≤ 64)
    (base : Nat) (v : Value) (n : Nat) (xs : List Value) (hs : a.eval s = v) (hown : w.ownsRow base e size v n xs)
    (g : Nat) (news : List Value) (hx : a.eval x = .slice (some ⟨g, 0, none⟩) 1 1) (hl : news.length = size) (hr : w.row? g = some news.toArray) (h1 : ∀ u ∈ news, u.oneCell' = true) (hn : n < 100000) (hbase : base ≤ w.heap.size)
    (h : ∀ v' w', w'.ownsRow base e size v' (n + 1) (xs ++ news) → w.grownBy w' v.ownBlock → (∀ g, v'.ownBlock = some g → v.ownBlock = some g ∨ w.heap.size ≤ g) → wpList P ops Q rest (a.put o.dst v') w') : wpList P ops Q (o :: rest) a w := by
  obtain ⟨i, hi, hz, h2, h3⟩ := info_parts hI
  refine wpList_append_lies w hgd s x t ho base e i z size bytes ht hi hz h2 h3 hzs hsz v n xs hs hown ⟨g, 0, none⟩ 1 1 news hx (by rw [Nat.one_mul]; exact hl) (news_row hr) h1 (by decide) (by unfold maxLen; omega) (by
    have : (n + 1) * bytes ≤ 100001 * 64 := Nat.mul_le_mul (by omega) hb8
    omega) hbase _ rfl (fun g cap w' q1 q2 q3 _ => h _ w' q1 q2 (fun g' hg' => by
      simp only [Value.ownBlock] at hg'
      obtain rfl := Option.some.inj hg'
      exact q3.imp id (fun e => Nat.le_of_eq e.symm)))
end Go.Proofs.L
