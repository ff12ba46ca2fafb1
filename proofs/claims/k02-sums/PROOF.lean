import PyProof.Rows.All
import Wide.All
import OpenK.AllK
import Wide.FinOn
import HandS.ForMost
import HandS.ForExc
import HandS.More
import HandS.Wide
import HandS.IsInst
import HandS.SortInts
import HandS.SetFor
import HandS.Strs
import HandS.Zip

import PySem.Challenge.RW_unitshares_k02_sums
set_option Elab.async false
set_option linter.all false
set_option maxRecDepth 100000
set_option maxHeartbeats 4000000
namespace U
open PySem PySem.Spec PyProof.Rows L2
def topS (i : Nat) : Stmt := PySem.Challenge.pw_unitshares_k02_sums.main.body.getD i (.Pass ⟨0, 0, 0, 0⟩)
/-! ### how a def, a class, a built-in stand -/
/-- the module's name x holds the def st -/
def Stands (K : PySem.W.Frag) (mg : Str → Option Value) (x : Str) (st : Stmt) : Prop := ∃ f fd, Fun K x x st f fd ∧ mg x = some (.ref f)
/-- the def x keeps the promise sp -/
def Keeps (P : Program) (w : World) (K : PySem.W.Frag) (mg : Str → Option Value) (base : Heap) (k : Nat) (x : Str) (ps : List Str) (sp : Sp) : Prop :=
  ∃ f fd, FnOk P w K mg base (L2.CX P w) k f fd ps sp ∧ Binds K fd ps [] ∧ mg x = some (.ref f) ∧ PySem.W.keepIn K (.ref f) = true
/-- nothing leaves, so whatever leaves is as one likes -/
theorem toX {P : Program} {w : World} {K : PySem.W.Frag} {mg : Str → Option Value} {base : Heap} {k : Nat} {f : Addr} {fd : FuncData} {ps : List Str} {sp : Sp} (F : FnOk P w K mg base CX0 k f fd ps sp) : FnOk P w K mg base (L2.CX P w) k f fd ps sp :=
  ⟨F.len, fun A outer s H args us vs Q E hr e0 hb r h => codeAny_mono (F.run A outer s H args us vs Q E hr e0 hb r h) fun r s' q => by
    cases r with
    | error e => exact False.elim q
    | ok fl => cases fl <;> exact q⟩
structure Bi (mg : Str → Option Value) : Prop where
  len : mg "len" = none
  range : mg "range" = none
  min : mg "min" = none
  max : mg "max" = none
  sum : mg "sum" = none
  sorted : mg "sorted" = none
  set : mg "set" = none
  dict : mg "dict" = none
  list : mg "list" = none
  str : mg "str" = none
  int : mg "int" = none
  isinstance : mg "isinstance" = none
  bool : mg "bool" = none
  tuple : mg "tuple" = none
  ValueError : mg "ValueError" = none
abbrev veT : List Value := [.type "ValueError", .type "Exception", .type "BaseException", .type "object"]
/-! ### heaps -/
theorem same_new {H : Hp} {p : Addr} {o : HO} (h : H p = none) : Same H (upd H p o) := fun b x e => by
  rw [upd_ne (ne_of_none e h)]
  exact e
/-- an object that H does not know is written -/
theorem same_mut {H H' : Hp} {p : Addr} {o : HO} (s : Same H H') (h : H p = none) : Same H (upd H' p o) := fun b x e => by
  rw [upd_ne (ne_of_none e h)]
  exact s b x e
theorem same_tup {K : PySem.W.Frag} {H H' : Hp} {a : Addr} {xs : List V} (e : Same H H') (h : SqT K H a xs) : SqT K H' a xs := by
  rcases h with (h | ⟨o, h⟩) | h
  · exact .inl (.inl (e _ _ h))
  · exact .inl (.inr ⟨o, e _ _ h⟩)
  · exact .inr h
theorem ty_list {K : PySem.W.Frag} {H : Hp} {a : Addr} {xs : List V} (h : SqL K H a xs) : TyX K H (.ref a) (.type "list") := by
  rcases h with (h | ⟨o, h⟩) | ⟨o, _, _, h, c, _⟩
  · exact .base (.lst h)
  · exact .base (.frz h)
  · exact .kList h c
theorem ty_tup {K : PySem.W.Frag} {H : Hp} {a : Addr} {xs : List V} (h : SqT K H a xs) : TyX K H (.ref a) (.type "tuple") := by
  rcases h with (h | ⟨o, h⟩) | ⟨o, _, _, h, c, _⟩
  · exact .base (.tup h)
  · exact .fTuple h
  · exact .kTuple h c
theorem szl {n : Nat} (h : n ≤ 16000000) : n ≤ sizeLine := Nat.le_trans h (by decide)
theorem szl_lt {n : Nat} (h : n < 16000000) : n < sizeLine := Nat.lt_of_lt_of_le h (by decide)
theorem get_map {α β : Type} {f : α → β} {l : List α} {i : Nat} {x : α} (h : l[i]? = some x) : (l.map f)[i]? = some (f x) := by
  rw [List.getElem?_map, h] <;> rfl
theorem of_get_map {α β : Type} {f : α → β} {l : List α} {i : Nat} {y : β} (h : (l.map f)[i]? = some y) : ∃ x, l[i]? = some x ∧ y = f x := by
  rw [List.getElem?_map] at h
  cases e : l[i]? with
  | none => rw [e] at h; cases h
  | some x => rw [e] at h; exact ⟨x, rfl, (Option.some.inj h).symm⟩
theorem take_snoc {α : Type} {l : List α} {i : Nat} {x : α} (h : l[i]? = some x) : l.take (i + 1) = l.take i ++ [x] := by
  rw [List.take_add_one, h] <;> rfl
theorem lt_of_get {α : Type} {l : List α} {i : Nat} {x : α} (h : l[i]? = some x) : i < l.length := (List.getElem?_eq_some_iff.mp h).1
/-- 1, 2, .., n -/
def upto (n : Nat) : List Int := (List.range n).map fun (i : Nat) => 1 + (i : Int)
theorem upto_succ (n : Nat) : upto (n + 1) = upto n ++ [1 + (n : Int)] := by
  unfold upto
  rw [List.range_succ, List.map_append] <;> rfl
theorem upto_length (n : Nat) : (upto n).length = n := by
  unfold upto
  rw [List.length_map, List.length_range]
theorem mem_upto {n : Nat} {x : Int} : x ∈ upto n ↔ 1 ≤ x ∧ x ≤ n := by
  unfold upto
  rw [List.mem_map]
  constructor
  · rintro ⟨i, hi, rfl⟩
    have := List.mem_range.mp hi
    omega
  · rintro ⟨h1, h2⟩
    exact ⟨(x - 1).toNat, List.mem_range.mpr (by omega), by omega⟩
theorem cw_mul {i j : Int} {a b : Nat} (ha : i.natAbs < 2 ^ a) (hb : j.natAbs < 2 ^ b) (h0 : 0 < a := by decide) (h1 : 0 < b := by decide) (h : a + b ≤ 1000000 := by decide) : CMulW i j := wide_mul ha hb h0 h1 h
theorem cw_div {i j : Int} {b : Nat} (h : 0 < j) (hb : j.natAbs < 2 ^ b) (h0 : 0 < b := by decide) (h9 : b ≤ 9000 := by decide) : CDivW i j := wide_div h hb h0 h9
theorem fil_yes {α : Type} {q : α → Prop} [DecidablePred q] {l : List α} {x : α} (h : q x) : (l ++ [x]).filter (fun k => decide (q k)) = l.filter (fun k => decide (q k)) ++ [x] := by
  rw [List.filter_append]
  congr 1
  simp [h]
theorem fil_no {α : Type} {q : α → Prop} [DecidablePred q] {l : List α} {x : α} (h : ¬ q x) : (l ++ [x]).filter (fun k => decide (q k)) = l.filter (fun k => decide (q k)) := by
  rw [List.filter_append]
  simp [h]
/-- what holds behind a statement, its ways joined -/
theorem cut {t R : TS} {D : Ends} {σ : L2.St} {H : Hp} (Pm : L2.St → Hp → Prop) (h1 : ∀ (R : TS) (D : Ends), (∀ σ' H', Pm σ' H' → R D σ' H') → tSeq t R D σ H) (h2 : ∀ σ' H', Pm σ' H' → R D σ' H') : tSeq t R D σ H := h1 R D h2

/-! ### sizes, by bits -/
/-- x has at most n bits -/
def Sz (n : Nat) (x : Int) : Prop := x.natAbs < 2 ^ n
theorem Sz.mono {a b : Nat} {x : Int} (h : Sz a x) (l : a ≤ b := by decide) : Sz b x := Nat.lt_of_lt_of_le h (Nat.pow_le_pow_right (by decide) l)
theorem Sz.le {a : Nat} {x y : Int} (h : Sz a y) (h0 : 0 ≤ x) (l : x ≤ y) : Sz a x := Nat.lt_of_le_of_lt (by omega : x.natAbs ≤ y.natAbs) h
theorem Sz.mul {a b : Nat} {x y : Int} (h : Sz a x) (g : Sz b y) : Sz (a + b) (x * y) := by
  unfold Sz
  rw [Int.natAbs_mul, Nat.pow_add]
  exact Nat.mul_lt_mul'' h g
theorem Sz.add {a : Nat} {x y : Int} (h : Sz a x) (g : Sz a y) : Sz (a + 1) (x + y) := by
  have h : x.natAbs < 2 ^ a := h
  have g : y.natAbs < 2 ^ a := g
  show (x + y).natAbs < 2 ^ (a + 1)
  rw [Nat.pow_succ]
  omega
theorem Sz.sub {a : Nat} {x y : Int} (h : Sz a x) (g : Sz a y) : Sz (a + 1) (x - y) := by
  have h : x.natAbs < 2 ^ a := h
  have g : y.natAbs < 2 ^ a := g
  show (x - y).natAbs < 2 ^ (a + 1)
  rw [Nat.pow_succ]
  omega
theorem Sz.cm {a b : Nat} {i j : Int} (ha : Sz a i) (hb : Sz b j) (h0 : 0 < a := by decide) (h1 : 0 < b := by decide) (h : a + b ≤ 1000000 := by decide) : CMulW i j := wide_mul ha hb h0 h1 h
theorem Sz.cd {b : Nat} {i j : Int} (hb : Sz b j) (h : 0 < j) (h0 : 0 < b := by decide) (h9 : b ≤ 9000 := by decide) : CDivW i j := wide_div h hb h0 h9
theorem Sz.lit {a : Nat} {x : Int} (h : x.natAbs < 2 ^ a := by decide) : Sz a x := h
theorem Sz.one {a : Nat} (h : 0 < a := by decide) : Sz a 1 := Nat.one_lt_two_pow (by omega)
theorem Sz.zero {a : Nat} : Sz a 0 := Nat.pow_pos (by decide)

--: math = sz
/-! ### lowest terms -/
def gc (a b : Int) : Int := ((Int.gcd a b : Nat) : Int)
def low (t b : Int) : Int × Int := (t / gc t b, b / gc t b)
theorem gc_nn (a b : Int) : 0 ≤ gc a b := Int.natCast_nonneg _
theorem gc_pos {t b : Int} (h : 1 ≤ b) : 0 < gc t b := by
  have : Int.gcd t b ≠ 0 := fun z => by
    have := (Int.gcd_eq_zero_iff.mp z).2
    omega
  unfold gc
  omega
theorem gc_dl (t b : Int) : gc t b ∣ t := Int.gcd_dvd_left ..
theorem gc_dr (t b : Int) : gc t b ∣ b := Int.gcd_dvd_right ..
theorem gc_le {t b : Int} (h : 1 ≤ b) : gc t b ≤ b := Int.le_of_dvd (by omega) (gc_dr t b)
theorem low_t (t b : Int) : (low t b).1 * gc t b = t := Int.ediv_mul_cancel (gc_dl t b)
theorem low_b (t b : Int) : (low t b).2 * gc t b = b := Int.ediv_mul_cancel (gc_dr t b)
theorem low_bpos {t b : Int} (h : 1 ≤ b) : 1 ≤ (low t b).2 := by
  have g := gc_pos (t := t) h
  have e := low_b t b
  by_cases z : 1 ≤ (low t b).2
  · exact z
  · have : (low t b).2 * gc t b ≤ 0 := Int.mul_nonpos_of_nonpos_of_nonneg (by omega) (by omega)
    omega
theorem low_tnn {t b : Int} (h : 1 ≤ b) (h0 : 0 ≤ t) : 0 ≤ (low t b).1 := Int.ediv_nonneg h0 (gc_nn t b)
theorem low_ble {t b : Int} (h : 1 ≤ b) : (low t b).2 ≤ b := Int.ediv_le_self _ (by omega)
theorem low_tle {t b : Int} (h0 : 0 ≤ t) : (low t b).1 ≤ t := Int.ediv_le_self _ h0
theorem low_cross (t b : Int) : t * (low t b).2 = (low t b).1 * b := by
  have h1 := low_t t b
  have h2 := low_b t b
  calc t * (low t b).2 = (low t b).1 * gc t b * (low t b).2 := by rw [h1]
    _ = (low t b).1 * ((low t b).2 * gc t b) := by rw [Int.mul_assoc, Int.mul_comm (gc t b)]
    _ = (low t b).1 * b := by rw [h2]
theorem low_scale {t b k : Int} (h : 0 < k) : low (t * k) (b * k) = low t b := by
  unfold low gc
  rw [Int.gcd_mul_right, Int.natCast_mul, Int.natAbs_of_nonneg (by omega), Int.mul_ediv_mul_of_pos_left _ _ h, Int.mul_ediv_mul_of_pos_left _ _ h]
theorem low_uniq {t b t' b' : Int} (h : 0 < b) (h' : 0 < b') (e : t * b' = t' * b) : low t b = low t' b' := by
  rw [← low_scale (t := t) (b := b) h', ← low_scale (t := t') (b := b') h, e, Int.mul_comm b b']
theorem low_low {t b : Int} (h : 1 ≤ b) : low (low t b).1 (low t b).2 = low t b :=
  low_uniq (by have := low_bpos (t := t) h; omega) (by omega) (low_cross t b).symm
theorem low_of_eq {t b t' b' : Int} (h : 1 ≤ b) (e : low t b = low t' b') : t * b' = t' * b := by
  have c1 := low_cross t b
  have c2 := low_cross t' b'
  rw [← e] at c2
  have hb := low_bpos (t := t) h
  refine Int.eq_of_mul_eq_mul_right (a := (low t b).2) (by omega) ?_
  calc t * b' * (low t b).2 = t * (low t b).2 * b' := by rw [Int.mul_assoc, Int.mul_comm b', Int.mul_assoc]
    _ = (low t b).1 * b' * b := by rw [c1, Int.mul_assoc, Int.mul_comm b, ← Int.mul_assoc]
    _ = t' * b * (low t b).2 := by rw [← c2, Int.mul_assoc, Int.mul_comm _ b, ← Int.mul_assoc]
theorem gc_step {x y : Int} : gc y (x % y) = gc x y := by
  unfold gc
  rw [Int.gcd_comm x y]
  have h := Int.gcd_add_mul_left_right y (x % y) (x / y)
  rw [Int.emod_add_mul_ediv] at h
  rw [h]
theorem gc_zero {x : Int} (h : 0 ≤ x) : gc x 0 = x := by
  unfold gc
  rw [Int.gcd_zero_right]
  omega

--: math = low
/-! ### sums of shares -/
def sumS (xs : List Int) : Int × Int := xs.foldl (fun p s => (p.1 * s + p.2, p.2 * s)) (0, 1)
/-- the sum of the shares, in lowest terms -/
def lowS (xs : List Int) : Int × Int := low (sumS xs).1 (sumS xs).2
/-- shares: none below one -/
def Pos (xs : List Int) : Prop := ∀ x ∈ xs, (1 : Int) ≤ x
theorem sumS_snoc (xs : List Int) (s : Int) : sumS (xs ++ [s]) = ((sumS xs).1 * s + (sumS xs).2, (sumS xs).2 * s) := by
  unfold sumS
  rw [List.foldl_append] <;> rfl
theorem sumS_nil : sumS [] = (0, 1) := rfl
theorem low_01 : low 0 1 = (0, 1) := by decide
theorem lowS_nil : lowS [] = (0, 1) := low_01
theorem Pos.snoc {xs : List Int} {s : Int} (h : Pos (xs ++ [s])) : Pos xs ∧ 1 ≤ s :=
  ⟨fun x hx => h x (List.mem_append_left _ hx), h s (List.mem_append_right _ List.mem_cons_self)⟩
theorem snoc_ind {α : Type} (P : List α → Prop) (l : List α) (h0 : P []) (hs : ∀ l x, P l → P (l ++ [x])) : P l := by
  have : ∀ r : List α, P r.reverse := fun r => by
    induction r with
    | nil => exact h0
    | cons x r ih =>
      rw [List.reverse_cons]
      exact hs _ _ ih
  have := this l.reverse
  rwa [List.reverse_reverse] at this
theorem sumS_pos (xs : List Int) : Pos xs → 0 ≤ (sumS xs).1 ∧ 1 ≤ (sumS xs).2 ∧ (sumS xs).1 ≤ xs.length * (sumS xs).2 := by
  refine snoc_ind (fun xs => Pos xs → 0 ≤ (sumS xs).1 ∧ 1 ≤ (sumS xs).2 ∧ (sumS xs).1 ≤ xs.length * (sumS xs).2) xs (fun _ => ⟨by decide, by decide, by decide⟩) (fun l x ih h => ?_)
  obtain ⟨h1, h2⟩ := h.snoc
  obtain ⟨a, b, c⟩ := ih h1
  rw [sumS_snoc, List.length_append]
  have p1 : 0 ≤ (sumS l).1 * x := Int.mul_nonneg a (by omega)
  have p2 : 0 < (sumS l).2 * x := Int.mul_pos (by omega) (by omega)
  refine ⟨by show 0 ≤ (sumS l).1 * x + (sumS l).2; omega, p2, ?_⟩
  show (sumS l).1 * x + (sumS l).2 ≤ ((l.length + 1 : Nat) : Int) * ((sumS l).2 * x)
  have q1 : (sumS l).1 * x ≤ l.length * (sumS l).2 * x := Int.mul_le_mul_of_nonneg_right c (by omega)
  have q2 : (sumS l).2 * 1 ≤ (sumS l).2 * x := Int.mul_le_mul_of_nonneg_left h2 (by omega)
  rw [Int.natCast_add, Int.add_mul, ← Int.mul_assoc]
  omega
theorem pos_take {xs : List Int} (h : Pos xs) (i : Nat) : Pos (xs.take i) := fun x hx => h x (List.mem_of_mem_take hx)
theorem sumS_append_le (ys xs : List Int) : Pos (xs ++ ys) → (sumS xs).2 ≤ (sumS (xs ++ ys)).2 := by
  refine snoc_ind (fun ys => Pos (xs ++ ys) → (sumS xs).2 ≤ (sumS (xs ++ ys)).2) ys (fun _ => ?_) (fun l x ih h => ?_)
  · rw [List.append_nil]
    exact Int.le_refl _
  · rw [← List.append_assoc] at h ⊢
    obtain ⟨h1, h2⟩ := h.snoc
    have a := ih h1
    have b := (sumS_pos _ h1).2.1
    rw [sumS_snoc (xs ++ l)]
    show (sumS xs).2 ≤ (sumS (xs ++ l)).2 * x
    have : (sumS (xs ++ l)).2 * 1 ≤ (sumS (xs ++ l)).2 * x := Int.mul_le_mul_of_nonneg_left h2 (by omega)
    omega
theorem sumS_take_le {xs : List Int} (h : Pos xs) (i : Nat) : (sumS (xs.take i)).2 ≤ (sumS xs).2 := by
  have := sumS_append_le (xs.drop i) (xs.take i)
  rw [List.take_append_drop] at this
  exact this h
/-- sizes within a sum -/
structure SumOk (xs : List Int) : Prop where
  pos : Pos xs
  sz : Sz 4000 (sumS xs).2
  len : xs.length ≤ 1000
theorem SumOk.take {xs : List Int} (h : SumOk xs) (i : Nat) : SumOk (xs.take i) where
  pos := pos_take h.pos i
  sz := h.sz.le (by have := (sumS_pos _ (pos_take h.pos i)).2.1; omega) (sumS_take_le h.pos i)
  len := by
    have := h.len
    rw [List.length_take]
    omega
theorem SumOk.top {xs : List Int} (h : SumOk xs) : Sz 4010 (sumS xs).1 := by
  obtain ⟨a, b, c⟩ := sumS_pos _ h.pos
  have hl : Sz 10 (xs.length : Int) := by
    have := h.len
    show (xs.length : Int).natAbs < 1024
    omega
  exact (hl.mul h.sz).mono.le a c
theorem SumOk.item {xs : List Int} (h : SumOk xs) {i : Nat} {s : Int} (e : xs[i]? = some s) : 1 ≤ s ∧ Sz 4000 s := by
  have hs : 1 ≤ s := h.pos s (List.mem_of_getElem? e)
  have k := (h.take (i + 1)).sz
  rw [List.take_add_one, e] at k
  have k : Sz 4000 (sumS (xs.take i ++ [s])).2 := k
  rw [sumS_snoc] at k
  have b := (sumS_pos _ (pos_take h.pos i)).2.1
  refine ⟨hs, Sz.le k (by omega) ?_⟩
  show s ≤ (sumS (xs.take i)).2 * s
  have : 1 * s ≤ (sumS (xs.take i)).2 * s := Int.mul_le_mul_of_nonneg_right b (by omega)
  omega
theorem low_step {t b s : Int} (hb : 1 ≤ b) (hs : 1 ≤ s) : low ((low t b).1 * s + 1 * (low t b).2) ((low t b).2 * s) = low (t * s + b) (b * s) := by
  have h := low_bpos (t := t) hb
  have p1 : 0 < (low t b).2 * s := Int.mul_pos (by omega) (by omega)
  have p2 : 0 < b * s := Int.mul_pos (by omega) (by omega)
  refine low_uniq p1 p2 ?_
  have c := low_cross t b
  generalize (low t b).1 = x at *
  generalize (low t b).2 = y at *
  have c2 : t * y * (s * s) = x * b * (s * s) := by rw [c]
  simp only [Int.add_mul, Int.mul_add, Int.one_mul] at *
  simp only [Int.mul_comm, Int.mul_left_comm, Int.mul_assoc] at *
  omega
theorem lowS_snoc {xs : List Int} {s : Int} (h : Pos xs) (hs : 1 ≤ s) : low ((lowS xs).1 * s + 1 * (lowS xs).2) ((lowS xs).2 * s) = lowS (xs ++ [s]) := by
  unfold lowS
  rw [low_step (sumS_pos _ h).2.1 hs, sumS_snoc]

/-! ### set(xs) of a list of ints -/
section
variable {P : Program} {w : World} {A : Around} {E : Value → Shared → Prop}
/-- a set that was just made -/
abbrev bare (w : World) : Obj := { cls := .type "set", dict := none, data := .set #[] 0 (.fresh 0 0 (!w.params.followText "set-order")) }
/-- what set.__init__ leaves of s, the set at a: it holds the ints, all of g is kept -/
def Filled (w : World) (s : Shared) (g : Heap) (a : Addr) (ns : List Int) (v : Value) (s' : Shared) : Prop :=
  v = .none ∧ ∃ h tk c, s' = { s with heap := h, toks := tk } ∧ SetR w h a (fun j => decide (j ∈ ns)) c ∧ c ≤ ns.length ∧ ∀ b o, g.get? b = some o → h.get? b = some o
/-- the filling, over the list's own iterator -/
theorem fill_list {g : Heap} {s : Shared} {l : Addr} {its : Array Value} {ns : List Int} (hs : s.heap = (g.push (bare w)).push { cls := .type "list_iterator", data := .fields #[.ref l, .int 0 0] }) (hh : A.handled = none)
    (hl : g.IsList l its) (hi : IntsAre its.toList ns) (hn : its.size = ns.length) (hb : ns.length + 1 < scanBound) {R : Result → Shared → Prop} (hr : ∀ s', Filled w s g g.objs.size ns .none s' → R (.ok (.ret .none)) s') :
    codeAny (model P w) A (.builtin "set.update.loop" ⟨[.ref g.objs.size, .ref (g.objs.size + 1)], []⟩) R s := by
  have lt : l < g.objs.size := by
    obtain ⟨o, e, _⟩ := hl
    exact Heap.lt_size e
  have z1 : (g.push (bare w)).objs.size = g.objs.size + 1 := Heap.size_push ..
  have a0 : (g.push (bare w)).get? g.objs.size = some (bare w) := Heap.get?_push_size _ rfl
  have apart : g.objs.size ∉ [g.objs.size + 1, l] := by
    intro m
    rcases List.mem_cons.mp m with e | m
    · exact Nat.ne_of_lt (Nat.lt_succ_self _) e
    · exact Nat.ne_of_gt lt (List.mem_singleton.mp m)
  have val : ∀ (i : Nat) (v : Value), its[i]? = some v → ∃ k t, ns[i]? = some k ∧ v = .int k t := fun i v e => by
    have hi' : i < ns.length := hn ▸ (Array.getElem?_eq_some_iff.mp e).1
    obtain ⟨t, q⟩ := IntsAre.int_at hi i v (by rw [Array.getElem?_toList]; exact e)
    have d : ns.getD i 0 = ns[i] := by rw [List.getD_eq_getElem?_getD, List.getElem?_eq_getElem hi'] <;> rfl
    exact ⟨ns[i], t, List.getElem?_eq_getElem hi', by rw [q, d]⟩
  have hh1 : A.in1.handled = none := hh
  have hl1 : (g.push (bare w)).IsList l its := hl.push _
  obtain ⟨hp, gg, d, tk, os⟩ := s
  have hs : hp = (g.push (bare w)).push { cls := .type "list_iterator", data := .fields #[.ref l, .int 0 0] } := hs
  subst hs
  have W := (Walks.list (prog := P) (w := w) hh1 (g.objs.size + 1) l (Nat.ne_of_lt (Nat.lt_succ_of_lt lt)) its).toS
  refine set_update_ints W g.objs.size apart ns hn hb val (its.size - 0) 0 _ (by omega) (Nat.zero_le _) ?_ ⟨0, Nat.le_refl 0, setR_new_at (Heap.get?_push_of_some _ a0)⟩ fun s' c m hc hR => ?_
  · exact ⟨⟨_, by rw [← z1]; exact Heap.get?_push_size _ rfl, rfl, rfl⟩, hl1.push _⟩
  · obtain ⟨h', g2, d2, tk2, os2⟩ := s'
    cases (m.gens : g2 = gg)
    cases (m.drawn : d2 = d)
    cases (m.os : os2 = os)
    refine hr _ ⟨rfl, h', tk2, c, rfl, hR, hn ▸ hc, fun b o e => ?_⟩
    have hb' := Heap.lt_size e
    refine m.heap b o (fun z => ?_) (Heap.get?_push_of_some _ (Heap.get?_push_of_some _ e))
    rcases List.mem_cons.mp z with z | z
    · exact Nat.ne_of_lt hb' z
    · exact Nat.ne_of_lt (Nat.lt_succ_of_lt hb') (List.mem_singleton.mp z)
set_option maxHeartbeats 3200000 in
theorem init_list {g : Heap} {s : Shared} {l : Addr} {its : Array Value} {ns : List Int} (hs : s.heap = g.push (bare w)) (hh : A.handled = none) (hl : g.IsList l its) (hi : IntsAre its.toList ns) (hn : its.size = ns.length) (hb : ns.length + 1 < scanBound) :
    codeAny (model P w) A (.call (.builtin "set.__init__") ⟨[.ref g.objs.size, .ref l], []⟩) (wants (Filled w s g g.objs.size ns) E) s := by
  have here : s.heap.get? g.objs.size = some (bare w) := by
    rw [hs]
    exact Heap.get?_push_size _ rfl
  have ty : s.TypeIs (.ref g.objs.size) "set" := ⟨_, here, rfl⟩
  have hl1 : s.heap.IsList l its := by
    rw [hs]
    exact hl.push _
  refine codeAny_call_builtin F.called_set.init.plain F.entry_set_init (check_set_init_1 ty ?_)
  obtain ⟨ol, gl, cl, nl, dl⟩ := id hl1
  obtain ⟨ocls, odict, odata, oslots⟩ := ol
  simp only at cl dl
  subst cl dl
  have n1 := F.sub_list_set
  have n2 := F.sub_list_frozenset
  have n3 : (Value.type "list" == Value.type "dict") = false := by decide
  obtain ⟨hp, gg, d, tk, os⟩ := s
  dsimp only at hs here gl hl1 ty
  subst hs
  unfold Builtin.«set.__init__» noKeywords Builtin.Frozenset.updateFrom
  generalize eI : pyIter = it
  wp_walk
  subst eI
  refine wpAny_pyIter_list hl1 ?_
  refine wpAny_bind (wpAny_runValue ?_)
  have z1 : (g.push (bare w)).objs.size = g.objs.size + 1 := Heap.size_push ..
  rw [z1]
  refine fill_list (g := g) rfl (by simpa using hh) hl hi hn hb fun s' f => ?_
  obtain ⟨_, h', tk', c, rfl, r⟩ := f
  show wpAny _ _ _ _ _ _
  refine wpAny_pure ?_
  show wpAny _ _ (ret Value.none) _ _ _
  exact wpAny_pure ⟨rfl, h', tk', c, rfl, r⟩
set_option maxHeartbeats 3200000 in
theorem set_of_list {s : Shared} {l : Addr} {its : Array Value} {ns : List Int} (hh : A.handled = none) (hl : s.heap.IsList l its) (hi : IntsAre its.toList ns) (hb : ns.length + 1 < scanBound) {Q : Value → Shared → Prop}
    (hq : ∀ (h : Heap) (tk c : Nat), SetR w h s.heap.objs.size (fun j => decide (j ∈ ns)) c → c ≤ ns.length → (∀ b o, s.heap.get? b = some o → h.get? b = some o) → Q (.ref s.heap.objs.size) { s with heap := h, toks := tk }) :
    wpAny (model P w) A (call (.type "set") [.ref l]) Q E s := by
  have hn : its.size = ns.length := by
    have q := IntsAre.length hi
    rwa [Array.length_toList] at q
  obtain ⟨c, tl, hmro⟩ := F.called_set.mro
  have f1 := F.called_set.made
  have f2 := F.called_set.sub
  have f3 := F.called_set.notType
  have f4 := F.called_set.canCreate
  have f5 := F.typeCall_set_1 (.ref l)
  refine wpAny_call (codeAny_of_tree ?_)
  show wpAny _ _ (callAny (.type "set") _) _ _ _
  refine wpAny_pure ⟨Code.quiet_builtin _ (by decide +kernel), codeAny_builtin F.entry_type_call ?_⟩
  rw [Around.under_plain (weight_type_call_type "set" [.ref l] []) rfl]
  repeat (any_goals (first | assumption | wp_step))
  refine codeAny_mono (code_set_led1 (w := w) (.ref l) (E := E) (Q₁ := fun u s₁ => u = .ref s.heap.objs.size ∧ s₁ = { s with heap := s.heap.push (bare w) }) ⟨rfl, rfl⟩) fun r s₁ hr => ?_
  cases r with
  | error e => exact hr
  | ok fl =>
    cases fl with
    | ret u =>
      obtain ⟨rfl, rfl⟩ := hr
      have here : (s.heap.push (bare w)).get? s.heap.objs.size = some (bare w) := Heap.get?_push_size _ rfl
      have ty : Shared.TypeIs { s with heap := s.heap.push (bare w) } (.ref s.heap.objs.size) "set" := ⟨_, here, rfl⟩
      have g1 := F.called_set.init.lookup
      have g2 := F.called_set.init.bind (.ref s.heap.objs.size)
      repeat (any_goals (first | assumption | wp_step))
      refine codeAny_mono (init_list (s := { s with heap := s.heap.push (bare w) }) rfl hh hl hi hn hb (E := E)) fun r₂ s₂ h₂ => ?_
      cases r₂ with
      | error e => exact h₂
      | ok f2 =>
        cases f2 with
        | ret v =>
          obtain ⟨rfl, h', tk', c', rfl, hR, hc, hk⟩ := h₂
          repeat (any_goals (first | assumption | wp_step))
          exact hq _ _ _ hR hc hk
        | next => exact h₂.elim
        | brk => exact h₂.elim
        | cont => exact h₂.elim
    | next => exact hr.elim
    | brk => exact hr.elim
    | cont => exact hr.elim
end
/-- set(xs) -/
def rSetL (K : PySem.W.Frag) (w : World) : List V → Hp → VK → Prop := fun vs H Q => ∃ (l : Addr) (ns : List Int), vs = [V.ref l] ∧ SqL K H l (ns.map V.int) ∧ ns.length < 4000 ∧
  ∀ (p : Addr) (c : Nat), H p = none → c ≤ ns.length → Q (.ref p) (upd H p (SetO w p (fun j => decide (j ∈ ns)) c))
theorem cr_setL {X : Cx} (hc : X.calm = true) : CallR X (.type "set") (rSetL X.K X.w) := by
  intro pins s σ H vs us Q I r h
  obtain ⟨l, ns, rfl, hS, hn, q⟩ := h
  obtain ⟨u, rfl, ru⟩ := vals1 r
  cases ru
  obtain ⟨its, rv, pl, hz⟩ := I.list hS
  refine set_of_list (I.ok.hd hc) pl.isList (ns := ns) (by simpa using RZ.intsAre_vals rv) (by unfold scanBound; omega) fun h tk c hR hc' hk => ?_
  exact ⟨.ref _, _, I.laid (t' := tk) (a := s.heap.objs.size) hk (Nat.le_refl _) (setO_new hR), rfl, q _ c (I.hok.fresh (Nat.le_refl _)) hc'⟩

/-! ### pairs of ints, compared -/
theorem dp_pair {K : PySem.W.Frag} {H : Hp} {a : Addr} {t u : Int} (h : SqT K H a [.int t, .int u]) : Dp K H (.ref a) (.tuple [.int t, .int u]) := .tup h (.cons (.int t) (.cons (.int u) .nil))
theorem eqv_pair (t u t' u' : Int) : PyData.eqv (.tuple [.int t, .int u]) (.tuple [.int t', .int u']) = decide (t = t' ∧ u = u') := by
  simp [PyData.eqv, PyData.eqvAll, Bool.decide_and]
  rfl

--: math = setlist
--: math = pairs
/-! ### lists that rise -/
def Ris (xs : List Int) : Prop := xs.Pairwise (· < ·)
instance (xs : List Int) : Decidable (Ris xs) := inferInstanceAs (Decidable (xs.Pairwise _))
theorem ris_uniq : ∀ {a b : List Int}, Ris a → Ris b → (∀ k, k ∈ a ↔ k ∈ b) → a = b
  | [], [], _, _, _ => rfl
  | [], y :: b, _, _, h => absurd ((h y).mpr List.mem_cons_self) (by simp)
  | x :: a, [], _, _, h => absurd ((h x).mp List.mem_cons_self) (by simp)
  | x :: a, y :: b, ha, hb, h => by
    obtain ⟨a1, a2⟩ := List.pairwise_cons.mp ha
    obtain ⟨b1, b2⟩ := List.pairwise_cons.mp hb
    have e : x = y := by
      rcases List.mem_cons.mp ((h x).mp List.mem_cons_self) with e | m
      · exact e
      · rcases List.mem_cons.mp ((h y).mpr List.mem_cons_self) with e | m'
        · exact e.symm
        · have := b1 x m
          have := a1 y m'
          omega
    subst e
    refine congrArg (x :: ·) (ris_uniq a2 b2 fun k => ⟨fun m => ?_, fun m => ?_⟩)
    · rcases List.mem_cons.mp ((h k).mp (List.mem_cons_of_mem _ m)) with e | m'
      · have := a1 k m
        omega
      · exact m'
    · rcases List.mem_cons.mp ((h k).mpr (List.mem_cons_of_mem _ m)) with e | m'
      · have := b1 k m
        omega
      · exact m'
theorem ris_adj {xs : List Int} (h : ∀ (j : Nat) (x y : Int), xs[j]? = some x → xs[j + 1]? = some y → x < y) : Ris xs := by
  refine List.pairwise_iff_getElem.mpr fun i j hi hj hij => ?_
  obtain ⟨d, rfl⟩ : ∃ d, j = i + 1 + d := ⟨j - (i + 1), by omega⟩
  induction d with
  | zero => exact h i _ _ (List.getElem?_eq_getElem hi) (List.getElem?_eq_getElem hj)
  | succ d ih =>
    have h1 := ih (by omega) (by omega)
    have h2 := h (i + 1 + d) _ _ (List.getElem?_eq_getElem (by omega)) (List.getElem?_eq_getElem hj)
    omega
theorem ris_at {xs : List Int} (h : Ris xs) {j : Nat} {x y : Int} (e1 : xs[j]? = some x) (e2 : xs[j + 1]? = some y) : x < y := by
  obtain ⟨h1, rfl⟩ := List.getElem?_eq_some_iff.mp e1
  obtain ⟨h2, rfl⟩ := List.getElem?_eq_some_iff.mp e2
  exact List.pairwise_iff_getElem.mp h j (j + 1) h1 h2 (by omega)
/-! ### data of ints, compared -/
theorem dp_ints {K : PySem.W.Frag} {H : Hp} {a : Addr} {xs : List Int} (h : SqL K H a (xs.map V.int)) : Dp K H (.ref a) (.list (xs.map PyData.int)) := by
  refine .lst h ?_
  clear h
  induction xs with
  | nil => exact .nil
  | cons x xs ih => exact .cons (.int x) ih
theorem eqvAll_ints : ∀ xs ys : List Int, PyData.eqvAll (xs.map PyData.int) (ys.map PyData.int) = decide (xs = ys)
  | [], [] => by simp [PyData.eqvAll]
  | [], y :: ys => by simp [PyData.eqvAll]
  | x :: xs, [] => by simp [PyData.eqvAll]
  | x :: xs, y :: ys => by
    have ih := eqvAll_ints xs ys
    simp only [List.map_cons, PyData.eqvAll, PyData.eqv, ih]
    rw [Bool.eq_iff_iff]
    simp
theorem eqv_ints (xs ys : List Int) : PyData.eqv (.list (xs.map PyData.int)) (.list (ys.map PyData.int)) = decide (xs = ys) := by
  rw [← eqvAll_ints]
  simp only [PyData.eqv]
theorem canLay_ints : ∀ xs : List Int, PyData.canLayAll0 (xs.map PyData.int) = true
  | [] => rfl
  | x :: xs => by
    simp only [List.map_cons, PyData.canLayAll0, PyData.canLay0, canLay_ints xs]
    rfl
theorem depth_ints : ∀ xs : List Int, PyData.depthAll (xs.map PyData.int) = 0
  | [] => rfl
  | x :: xs => by
    simp only [List.map_cons, PyData.depthAll, PyData.depth, depth_ints xs]
    rfl
theorem shaped_ints (xs : List Int) : SeqAt.shaped (.list (xs.map PyData.int)) = true := by
  unfold SeqAt.shaped
  simp only [PyData.canLay0, PyData.depth, canLay_ints, depth_ints]
  rfl

structure ErrA where
  ShareError : Addr
  NoFraction : Addr
  NotBelow : Addr
  TooGreat : Addr
  BadText : Addr
  NotRising : Addr
structure ErrC (K : PySem.W.Frag) (mg : Str → Option Value) (C S : Addr) (x : Str) : Prop where
  g : mg x = some (.ref C)
  x : PySem.W.excIn K C veT "ValueError.__new__" = true
  k : PySem.W.keepIn K (.ref C) = true
  b : PySem.W.subIn K (.ref C) (.type "BaseException") = some true
  t : PySem.W.typeIn K (.ref C) = some (.type "type")
structure ErrOk (K : PySem.W.Frag) (mg : Str → Option Value) (e : ErrA) : Prop where
  ShareError : ErrC K mg e.ShareError e.ShareError "ShareError"
  NoFraction : ErrC K mg e.NoFraction e.ShareError "NoFraction"

section
variable {P : Program} {w : World} {K : PySem.W.Frag} {mg : Str → Option Value} {base : Heap} {e : ErrA}

abbrev s_see : Stmt := topS 4
abbrev N_see : List Str := ["fraction"]
theorem sc_see : FnScope N_see ["fraction"] (defScope s_see) := ⟨rfl, rfl, rfl, by decide +kernel, rfl, by decide +kernel, by decide +kernel⟩
def sp_see (K : PySem.W.Frag) (e : ErrA) : Sp := fun vs H Q E => ∃ (a : Addr) (t b : Int), vs = [.ref a] ∧ SqT K H a [.int t, .int b] ∧ ((t < 0 ∨ b < 1) → E (.ref e.NoFraction) none H) ∧ (¬ (t < 0 ∨ b < 1) → Q .non H)
theorem ok_see (D : Stands K mg "see" s_see) (B : Bi mg) (Er : ErrOk K mg e) : Keeps P w K mg base 1 "see" ["fraction"] (sp_see K e) := by
  obtain ⟨f, fd, F, mF⟩ := D
  have h_NoFraction := Er.NoFraction
  refine ⟨f, fd, ?_, F.binds (ps := ["fraction"]) (fun _ _ _ _ _ _ us hl => match us, hl with | [_], _ => rfl), mF, F.kp⟩
  refine F.okX sc_see (fun vs H Q E h => ?_) (fun cdv A outer s H vs Q E hr h => ?_)
  · obtain ⟨a, t, b, rfl, hS, kE, kQ⟩ := h
    rfl
  · obtain ⟨a, t, b, rfl, hS, kE, kQ⟩ := h
    refine ⟨_, (pss_one (ps_if (PW.pt (pw_or (pt_cmpR op_lt (pe_ix ix_tup (pv 0) pe_int (fun _ _ => rfl)) pe_int (nomark _)) (pw_or1 (pt_cmpR op_lt (pe_ix ix_tup (pv 0) pe_int (fun _ _ => rfl)) pe_int (nomark _))))) (pss_one (ps_raise rfl (takes_of rfl rfl rfl rfl) (pmk_own PySem.F.excBase_ValueError h_NoFraction.x h_NoFraction.g h_NoFraction.k (raises_own h_NoFraction.b h_NoFraction.t) rfl))) pss_nil)), ?_⟩
    refine ⟨_, rfl, a, _, 0, _, rfl, rfl, hS, atI_nat (j := 0) rfl, _, _, rfl, rfl, _, rfl, ite2 (fun c => ?_) (fun c => ?_)⟩
    · refine iteT ?_
      exact kE (.inl (of_decide_eq_true c))
    · have c0 : ¬ t < 0 := fun z => c (decide_eq_true z)
      refine ⟨_, rfl, a, _, 1, _, rfl, rfl, hS, atI_nat (j := 1) rfl, _, _, rfl, rfl, _, rfl, ite2 (fun c => ?_) (fun c => ?_)⟩
      · exact kE (.inr (of_decide_eq_true c))
      · exact kQ fun z => z.elim c0 fun z => c (decide_eq_true z)

abbrev s_common : Stmt := topS 5
abbrev N_common : List Str := ["one", "other", "rest"]
theorem sc_common : FnScope N_common ["one", "other"] (defScope s_common) := ⟨rfl, rfl, rfl, by decide +kernel, rfl, by decide +kernel, by decide +kernel⟩
def sp_common (K : PySem.W.Frag) (_ : ErrA) : Sp := fun vs H Q _ => ∃ x y : Int, vs = [.int x, .int y] ∧ 0 ≤ x ∧ 0 ≤ y ∧ Q (.int (gc x y)) H
theorem ok_common (D : Stands K mg "common" s_common) (B : Bi mg) (Er : ErrOk K mg e) : Keeps P w K mg base 1 "common" ["one", "other"] (sp_common K e) := by
  obtain ⟨f, fd, F, mF⟩ := D
  refine ⟨f, fd, ?_, F.binds (ps := ["one", "other"]) (fun _ _ _ _ _ _ us hl => match us, hl with | [_, _], _ => rfl), mF, F.kp⟩
  refine toX (F.ok sc_common (fun vs H Q E h => ?_) (fun cdv A outer s H vs Q E hr h => ?_))
  · obtain ⟨x, y, rfl, hx, hy, q⟩ := h
    rfl
  · obtain ⟨x, y, rfl, hx, hy, q⟩ := h
    refine ⟨_, (pss_cons (ps_while PassesOwn.never (pt_cmpR op_gt (pv 1) pe_int (nomark _)) (pss_cons (ps_set (i := 2) sc_common.nd rfl (Or.inl rfl) (pe_op op_mod (pv 0) (pv 1)))
      (pss_cons (ps_set (i := 0) sc_common.nd rfl (Or.inl rfl) (pv 1))
      (pss_one (ps_set (i := 1) sc_common.nd rfl (Or.inl rfl) (pv 2))))))
      (pss_one (ps_ret (pv 0)))), ?_⟩
    refine while_by (fun σ H' => H' = H ∧ ∃ (u v : Int) (r : Option V), σ = [some (.int u), some (.int v), r] ∧ 0 ≤ u ∧ 0 ≤ v ∧ gc u v = gc x y)
      (fun σ _ => match σ with | [_, some (.int v), _] => v.toNat | _ => 0) ⟨rfl, x, y, none, rfl, hx, hy, rfl⟩ ?_ ?_
    · rintro σ H' ⟨rfl, u, v, r, rfl, hu, hv, hg⟩
      refine ⟨_, rfl, _, _, rfl, rfl, _, rfl, ite2 (fun c => ?_) (fun c => ?_)⟩
      · have c := of_decide_eq_true c
        have m1 := Int.emod_nonneg u (b := v) (by omega)
        have m2 := Int.emod_lt_of_pos u c
        refine ⟨_, rfl, _, rfl, _, _, rfl, rfl, c, _, rfl, _, rfl, ⟨rfl, v, u % v, _, rfl, hv, m1, gc_step.trans hg⟩, ?_⟩
        show (u % v).toNat < v.toNat
        omega
      · have c : ¬ 0 < v := fun z => c (decide_eq_true z)
        have v0 : v = 0 := by omega
        subst v0
        rw [gc_zero hu] at hg
        refine ⟨_, rfl, ?_⟩
        rw [hg]
        exact q
    · rintro σ H' Q1 Q2 hq ⟨v, e1, i, j, e2, e3, k, e4, e5⟩
      exact ⟨v, e1, i, j, e2, e3, k, e4, hq _ _ e5⟩

abbrev s_lowest : Stmt := topS 6
abbrev N_lowest : List Str := ["fraction", "far"]
theorem sc_lowest : FnScope N_lowest ["fraction"] (defScope s_lowest) := ⟨rfl, rfl, rfl, by decide +kernel, rfl, by decide +kernel, by decide +kernel⟩
def sp_lowest (K : PySem.W.Frag) (e : ErrA) : Sp := fun vs H Q E => ∃ (a : Addr) (t b : Int), vs = [.ref a] ∧ SqT K H a [.int t, .int b] ∧ Sz 9000 b ∧ ((t < 0 ∨ b < 1) → E (.ref e.NoFraction) none H) ∧
  (¬ (t < 0 ∨ b < 1) → ∀ H' p, Same H H' → H p = none → H' p = some (.tup [.int (low t b).1, .int (low t b).2]) → Q (.ref p) H')
theorem ok_lowest (D : Stands K mg "lowest" s_lowest) (B : Bi mg) (Er : ErrOk K mg e)
    (h_see : Keeps P w K mg base 1 "see" ["fraction"] (sp_see K e))
    (h_common : Keeps P w K mg base 1 "common" ["one", "other"] (sp_common K e)) : Keeps P w K mg base 2 "lowest" ["fraction"] (sp_lowest K e) := by
  obtain ⟨f, fd, F, mF⟩ := D
  obtain ⟨f_see, fd_see, G_see, b_see, m_see, k_see⟩ := h_see
  obtain ⟨f_common, fd_common, G_common, b_common, m_common, k_common⟩ := h_common
  refine ⟨f, fd, ?_, F.binds (ps := ["fraction"]) (fun _ _ _ _ _ _ us hl => match us, hl with | [_], _ => rfl), mF, F.kp⟩
  refine F.okX sc_lowest (fun vs H Q E h => ?_) (fun cdv A outer s H vs Q E hr h => ?_)
  · obtain ⟨a, t, b, rfl, hS, hz, kE, kQ⟩ := h
    rfl
  · obtain ⟨a, t, b, rfl, hS, hz, kE, kQ⟩ := h
    refine ⟨_, (pss_cons (ps_expr (pe_call G_see (hr.mono (by decide)) (by rfl) m_see k_see b_see .nil (passes_call (E := E) (takes_of rfl rfl rfl rfl) (fun _ _ _ _ h => h)) (pa_cons (pv 0) pa_nil)))
      (pss_cons (ps_set (i := 1) sc_lowest.nd rfl (Or.inl rfl) (pe_call G_common (hr.mono (by decide)) (by rfl) m_common k_common b_common .nil passL (pa_cons (pe_ix ix_tup (pv 0) pe_int (fun _ _ => rfl)) (pa_cons (pe_ix ix_tup (pv 0) pe_int (fun _ _ => rfl)) pa_nil))))
      (pss_one (ps_ret (pe_tup (pa_cons (pe_op op_fdivW (pe_ix ix_tup (pv 0) pe_int (fun _ _ => rfl)) (pv 1)) (pa_cons (pe_op op_fdivW (pe_ix ix_tup (pv 0) pe_int (fun _ _ => rfl)) (pv 1)) pa_nil))))))), ?_⟩
    refine ⟨_, rfl, a, t, b, rfl, hS, fun c => kE c, fun c => ?_⟩
    have hb : 1 ≤ b := by omega
    have ht : 0 ≤ t := by omega
    have hf := gc_pos (t := t) hb
    have hfz : Sz 9000 (gc t b) := hz.le (by omega) (gc_le hb)
    refine ⟨_, rfl, a, _, 0, _, rfl, rfl, hS, atI_nat (j := 0) rfl, _, rfl, a, _, 1, _, rfl, rfl, hS, atI_nat (j := 1) rfl, t, b, rfl, ht, by omega, ?_⟩
    refine ⟨_, rfl, a, _, 0, _, rfl, rfl, hS, atI_nat (j := 0) rfl, _, rfl, _, _, rfl, rfl, hfz.cd hf, ?_⟩
    refine ⟨_, rfl, a, _, 1, _, rfl, rfl, hS, atI_nat (j := 1) rfl, _, rfl, _, _, rfl, rfl, hfz.cd hf, by show 2 ≤ sizeLine; decide, fun p hp => ?_⟩
    exact kQ c _ p (same_new hp) hp upd_same

abbrev s_added : Stmt := topS 7
abbrev N_added : List Str := ["one", "other"]
theorem sc_added : FnScope N_added ["one", "other"] (defScope s_added) := ⟨rfl, rfl, rfl, by decide +kernel, rfl, by decide +kernel, by decide +kernel⟩
def sp_added (K : PySem.W.Frag) (e : ErrA) : Sp := fun vs H Q E => ∃ (a c : Addr) (t b u d : Int), vs = [.ref a, .ref c] ∧ SqT K H a [.int t, .int b] ∧ SqT K H c [.int u, .int d] ∧ Sz 4400 t ∧ Sz 4400 b ∧ Sz 4400 u ∧ Sz 4400 d ∧
  ((t < 0 ∨ b < 1 ∨ u < 0 ∨ d < 1) → E (.ref e.NoFraction) none H) ∧
  (0 ≤ t → 1 ≤ b → 0 ≤ u → 1 ≤ d → ∀ H' p, Same H H' → H p = none → H' p = some (.tup [.int (low (t * d + u * b) (b * d)).1, .int (low (t * d + u * b) (b * d)).2]) → Q (.ref p) H')
theorem ok_added (D : Stands K mg "added" s_added) (B : Bi mg) (Er : ErrOk K mg e)
    (h_see : Keeps P w K mg base 1 "see" ["fraction"] (sp_see K e))
    (h_lowest : Keeps P w K mg base 2 "lowest" ["fraction"] (sp_lowest K e)) : Keeps P w K mg base 3 "added" ["one", "other"] (sp_added K e) := by
  obtain ⟨f, fd, F, mF⟩ := D
  obtain ⟨f_see, fd_see, G_see, b_see, m_see, k_see⟩ := h_see
  obtain ⟨f_lowest, fd_lowest, G_lowest, b_lowest, m_lowest, k_lowest⟩ := h_lowest
  refine ⟨f, fd, ?_, F.binds (ps := ["one", "other"]) (fun _ _ _ _ _ _ us hl => match us, hl with | [_, _], _ => rfl), mF, F.kp⟩
  refine F.okX sc_added (fun vs H Q E h => ?_) (fun cdv A outer s H vs Q E hr h => ?_)
  · obtain ⟨a, c, t, b, u, d, rfl, hA, hC, z1, z2, z3, z4, kE, kQ⟩ := h
    rfl
  · obtain ⟨a, c, t, b, u, d, rfl, hA, hC, z1, z2, z3, z4, kE, kQ⟩ := h
    refine ⟨_, (pss_cons (ps_expr (pe_call G_see (hr.mono (by decide)) (by rfl) m_see k_see b_see .nil (passes_call (E := E) (takes_of rfl rfl rfl rfl) (fun _ _ _ _ h => h)) (pa_cons (pv 0) pa_nil)))
      (pss_cons (ps_expr (pe_call G_see (hr.mono (by decide)) (by rfl) m_see k_see b_see .nil (passes_call (E := E) (takes_of rfl rfl rfl rfl) (fun _ _ _ _ h => h)) (pa_cons (pv 1) pa_nil)))
      (pss_one (ps_ret (pe_call G_lowest (hr.mono (by decide)) (by rfl) m_lowest k_lowest b_lowest .nil (passes_call (E := E) (takes_of rfl rfl rfl rfl) (fun _ _ _ _ h => h)) (pa_cons (pe_tup (pa_cons (pe_op op_add (pe_op op_mulW (pe_ix ix_tup (pv 0) pe_int (fun _ _ => rfl)) (pe_ix ix_tup (pv 1) pe_int (fun _ _ => rfl))) (pe_op op_mulW (pe_ix ix_tup (pv 1) pe_int (fun _ _ => rfl)) (pe_ix ix_tup (pv 0) pe_int (fun _ _ => rfl)))) (pa_cons (pe_op op_mulW (pe_ix ix_tup (pv 0) pe_int (fun _ _ => rfl)) (pe_ix ix_tup (pv 1) pe_int (fun _ _ => rfl))) pa_nil))) pa_nil)))))), ?_⟩
    refine ⟨_, rfl, a, t, b, rfl, hA, fun c => kE (by omega), fun c1 => ?_⟩
    refine ⟨_, rfl, c, u, d, rfl, hC, fun c => kE (by omega), fun c2 => ?_⟩
    have bd : 1 ≤ b * d := Int.mul_pos (by omega) (by omega)
    have td : 0 ≤ t * d + u * b := Int.add_nonneg (Int.mul_nonneg (by omega) (by omega)) (Int.mul_nonneg (by omega) (by omega))
    refine ⟨_, rfl, a, _, 0, _, rfl, rfl, hA, atI_nat (j := 0) rfl, _, rfl, c, _, 1, _, rfl, rfl, hC, atI_nat (j := 1) rfl, _, _, rfl, rfl, z1.cm z4, ?_⟩
    refine ⟨_, rfl, c, _, 0, _, rfl, rfl, hC, atI_nat (j := 0) rfl, _, rfl, a, _, 1, _, rfl, rfl, hA, atI_nat (j := 1) rfl, _, _, rfl, rfl, z3.cm z2, _, _, rfl, rfl, ?_⟩
    refine ⟨_, rfl, a, _, 1, _, rfl, rfl, hA, atI_nat (j := 1) rfl, _, rfl, c, _, 1, _, rfl, rfl, hC, atI_nat (j := 1) rfl, _, _, rfl, rfl, z2.cm z4, by show 2 ≤ sizeLine; decide, fun p hp => ?_⟩
    refine ⟨p, _, _, rfl, SqT.of upd_same, (z2.mul z4).mono, fun c => absurd c (by omega), fun _ H' r s hr e => ?_⟩
    exact kQ (by omega) (by omega) (by omega) (by omega) H' r ((same_new hp).trans s) ((same_new hp).free hr) e

abbrev s_sum_of : Stmt := topS 8
abbrev N_sum_of : List Str := ["shares", "total", "share"]
theorem sc_sum_of : FnScope N_sum_of ["shares"] (defScope s_sum_of) := ⟨rfl, rfl, rfl, by decide +kernel, rfl, by decide +kernel, by decide +kernel⟩
def sp_sum_of (K : PySem.W.Frag) (_ : ErrA) : Sp := fun vs H Q _ => ∃ (a : Addr) (xs : List Int), vs = [.ref a] ∧ SqL K H a (xs.map V.int) ∧ SumOk xs ∧
  ∀ H' p, Same H H' → H p = none → H' p = some (.tup [.int (lowS xs).1, .int (lowS xs).2]) → Q (.ref p) H'
theorem ok_sum_of (D : Stands K mg "sum_of" s_sum_of) (B : Bi mg) (Er : ErrOk K mg e)
    (h_added : Keeps P w K mg base 3 "added" ["one", "other"] (sp_added K e)) : Keeps P w K mg base 4 "sum_of" ["shares"] (sp_sum_of K e) := by
  obtain ⟨f, fd, F, mF⟩ := D
  obtain ⟨f_added, fd_added, G_added, b_added, m_added, k_added⟩ := h_added
  refine ⟨f, fd, ?_, F.binds (ps := ["shares"]) (fun _ _ _ _ _ _ us hl => match us, hl with | [_], _ => rfl), mF, F.kp⟩
  refine toX (F.ok sc_sum_of (fun vs H Q E h => ?_) (fun cdv A outer s H vs Q E hr h => ?_))
  · obtain ⟨a, xs, rfl, hS, ok, q⟩ := h
    rfl
  · obtain ⟨a, xs, rfl, hS, ok, q⟩ := h
    refine ⟨_, (pss_cons (ps_set (i := 1) sc_sum_of.nd rfl (Or.inl rfl) (pe_tup (pa_cons pe_int (pa_cons pe_int pa_nil))))
      (pss_cons (ps_for PassesOwn.never rfl (pi_list (pv 0)) (pg_name (i := 2) sc_sum_of.nd rfl (Or.inl rfl)) (pss_one (ps_set (i := 1) sc_sum_of.nd rfl (Or.inl rfl) (pe_call G_added (hr.mono (by decide)) (by rfl) m_added k_added b_added .nil passL (pa_cons (pv 1) (pa_cons (pe_tup (pa_cons pe_int (pa_cons (pv 2) pa_nil))) pa_nil))))))
      (pss_one (ps_ret (pv 1))))), ?_⟩
    refine ⟨by show 2 ≤ sizeLine; decide, fun z hz => ?_⟩
    refine ⟨_, rfl, a, rfl, ⟨_, (same_new hz).seq hS⟩, for_list (K := K) (a := a) (xs := xs.map V.int) (fun i σ H' => Same H H' ∧ ∃ (p : Addr) (v : Option V), σ = [some (.ref a), some (.ref p), v] ∧ H p = none ∧
      H' p = some (.tup [.int (lowS (xs.take i)).1, .int (lowS (xs.take i)).2])) ⟨same_new hz, z, none, rfl, hz, by rw [upd_same, List.take_zero, lowS_nil]⟩ (fun i σ H' _ h => h.1.seq hS) ?_ ?_⟩
    · rintro i y σ H' hy ⟨sm, p, v, rfl, hp, ep⟩
      obtain ⟨s, es, rfl⟩ := of_get_map hy
      have k := ok.take i
      obtain ⟨s1, s2⟩ := ok.item es
      obtain ⟨a1, a2, a3⟩ := sumS_pos _ k.pos
      have l1 := low_tnn (t := (sumS (xs.take i)).1) a2 a1
      have l2 := low_bpos (t := (sumS (xs.take i)).1) a2
      have l3 := low_tle (b := (sumS (xs.take i)).2) a1
      have l4 := low_ble (t := (sumS (xs.take i)).1) a2
      refine ⟨_, rfl, _, rfl, by show 2 ≤ sizeLine; decide, fun r hr => ?_⟩
      have s3 := same_new (o := .tup [.int 1, .int s]) hr
      refine ⟨p, r, _, _, _, _, rfl, SqT.of (s3 _ _ ep), SqT.of upd_same, (k.top.le l1 l3).mono, (k.sz.le (by omega) l4).mono, Sz.one, s2.mono, fun c => ?_, fun _ _ _ _ H2 n sn hn en => ?_⟩
      · have : lowS (xs.take i) = low (sumS (xs.take i)).1 (sumS (xs.take i)).2 := rfl
        rw [this] at c
        omega
      · rw [lowS_snoc k.pos s1, ← take_snoc es] at en
        exact ⟨(sm.trans s3).trans sn, n, _, rfl, (sm.trans s3).free hn, en⟩
    · rintro σ H' ⟨sm, p, v, rfl, hp, ep⟩
      rw [List.length_map, List.take_length] at ep
      exact ⟨_, rfl, q H' p sm hp ep⟩

abbrev s_is_way : Stmt := topS 9
abbrev N_is_way : List Str := ["fraction", "shares", "k"]
theorem sc_is_way : FnScope N_is_way ["fraction", "shares"] (defScope s_is_way) := ⟨rfl, rfl, rfl, by decide +kernel, rfl, by decide +kernel, by decide +kernel⟩
def sp_is_way (K : PySem.W.Frag) (e : ErrA) : Sp := fun vs H Q E => ∃ (a c : Addr) (t b : Int) (xs : List Int), vs = [.ref a, .ref c] ∧ SqT K H a [.int t, .int b] ∧ SqL K H c (xs.map V.int) ∧ SumOk xs ∧ Sz 9000 b ∧
  ((t < 0 ∨ b < 1) → E (.ref e.NoFraction) none H) ∧ (0 ≤ t → 1 ≤ b → ∀ H', Same H H' → Q (.bl (decide (Ris xs ∧ lowS xs = low t b))) H')
theorem ok_is_way (D : Stands K mg "is_way" s_is_way) (B : Bi mg) (Er : ErrOk K mg e)
    (h_see : Keeps P w K mg base 1 "see" ["fraction"] (sp_see K e))
    (h_sum_of : Keeps P w K mg base 4 "sum_of" ["shares"] (sp_sum_of K e))
    (h_lowest : Keeps P w K mg base 2 "lowest" ["fraction"] (sp_lowest K e)) : Keeps P w K mg base 5 "is_way" ["fraction", "shares"] (sp_is_way K e) := by
  obtain ⟨f, fd, F, mF⟩ := D
  obtain ⟨f_see, fd_see, G_see, b_see, m_see, k_see⟩ := h_see
  obtain ⟨f_sum_of, fd_sum_of, G_sum_of, b_sum_of, m_sum_of, k_sum_of⟩ := h_sum_of
  obtain ⟨f_lowest, fd_lowest, G_lowest, b_lowest, m_lowest, k_lowest⟩ := h_lowest
  refine ⟨f, fd, ?_, F.binds (ps := ["fraction", "shares"]) (fun _ _ _ _ _ _ us hl => match us, hl with | [_, _], _ => rfl), mF, F.kp⟩
  refine F.okX sc_is_way (fun vs H Q E h => ?_) (fun cdv A outer s H vs Q E hr h => ?_)
  · obtain ⟨a, c, t, b, xs, rfl, hA, hC, ok, hz, kE, kQ⟩ := h
    rfl
  · obtain ⟨a, c, t, b, xs, rfl, hA, hC, ok, hz, kE, kQ⟩ := h
    refine ⟨_, (pss_cons (ps_expr (pe_call G_see (hr.mono (by decide)) (by rfl) m_see k_see b_see .nil (passes_call (E := E) (takes_of rfl rfl rfl rfl) (fun _ _ _ _ h => h)) (pa_cons (pv 0) pa_nil)))
      (pss_cons (ps_for (passes_of rfl) rfl (pi_range2 (by rfl) B.range (pa_cons pe_int (pa_cons (pe_callB call_len_seq (by rfl) B.len (by decide +kernel) (pa_cons (pv 1) pa_nil)) pa_nil))) (pg_name (i := 2) sc_is_way.nd rfl (Or.inl rfl)) (pss_one (ps_if (pt_cmpR op_ge (pe_ix ix_list (pv 1) (pe_op op_sub (pv 2) pe_int) (fun _ _ => rfl)) (pe_ix ix_list (pv 1) (pv 2) (fun _ _ => rfl)) (nomark _)) (pss_one (ps_ret pe_bl)) pss_nil)))
      (pss_one (ps_ret (pe_cmpR (op_eqD hr.units) (pe_call G_sum_of (hr.mono (by decide)) (by rfl) m_sum_of k_sum_of b_sum_of .nil passL (pa_cons (pv 1) pa_nil)) (pe_call G_lowest (hr.mono (by decide)) (by rfl) m_lowest k_lowest b_lowest .nil (passes_call (E := E) (takes_of rfl rfl rfl rfl) (fun _ _ _ _ h => h)) (pa_cons (pv 0) pa_nil)) (nomark _)))))), ?_⟩
    have hlen := ok.len
    refine ⟨_, rfl, a, t, b, rfl, hA, kE, fun g => ?_⟩
    have ht : 0 ≤ t := by omega
    have hb : 1 ≤ b := by omega
    refine ⟨_, rfl, c, _, rfl, .inl hC, 1, _, rfl, ⟨by decide, by decide, by omega, by rw [List.length_map]; omega⟩, ?_⟩
    have en : (((xs.map V.int).length : Int) - 1).toNat = xs.length - 1 := by
      rw [List.length_map]
      omega
    rw [en]
    refine for_range (lo := 1) (n := _) (fun i σ H' => (∀ (j : Nat) (x y : Int), j < i → xs[j]? = some x → xs[j + 1]? = some y → x < y) ∧ H' = H ∧ ∃ v : Option V, σ = [some (.ref a), some (.ref c), v]) ⟨fun j x y z => absurd z (by omega), rfl, none, rfl⟩ ?_ ?_
    · rintro i σ H' hi ⟨hr, rfl, v, rfl⟩
      have i1 : i < xs.length := by omega
      have i2 : i + 1 < xs.length := by omega
      have g1 : (xs.map V.int)[i]? = some (.int xs[i]) := get_map (List.getElem?_eq_getElem i1)
      have g2 : (xs.map V.int)[i + 1]? = some (.int xs[i + 1]) := get_map (List.getElem?_eq_getElem i2)
      refine ⟨_, rfl, _, rfl, _, _, rfl, rfl, c, _, _, _, rfl, rfl, hC, at_of (j := i) (by omega) g1, _, rfl, _, rfl, c, _, _, _, rfl, rfl, hC, at_of (j := i + 1) (by omega) g2, _, _, rfl, rfl, _, rfl, ite2 (fun c0 => ?_) (fun c0 => ?_)⟩
      · have c0 := of_decide_eq_true c0
        have no : ¬ (Ris xs ∧ lowS xs = low t b) := fun z => by
          have := ris_at z.1 (List.getElem?_eq_getElem i1) (List.getElem?_eq_getElem i2)
          omega
        have := kQ ht hb H' (Same.refl _)
        rw [decide_eq_false no] at this
        exact this
      · refine ⟨fun j x y hj e1 e2 => ?_, rfl, _, rfl⟩
        have c0 : ¬ xs[i + 1] ≤ xs[i] := fun z => c0 (decide_eq_true z)
        by_cases hji : j < i
        · exact hr j x y hji e1 e2
        · obtain rfl : j = i := by omega
          rw [List.getElem?_eq_getElem i1] at e1
          rw [List.getElem?_eq_getElem i2] at e2
          cases e1
          cases e2
          omega
    · rintro σ H' ⟨hr, rfl, v, rfl⟩
      have rs : Ris xs := ris_adj fun j x y e1 e2 => hr j x y (by have := lt_of_get e2; omega) e1 e2
      refine ⟨_, rfl, c, xs, rfl, hC, ok, fun H1 p s1 np e1 => ?_⟩
      refine ⟨_, rfl, a, t, b, rfl, same_tup s1 hA, hz, fun z => absurd z g, fun _ H2 r s2 nr e2 => ?_⟩
      refine ⟨_, _, dp_pair (SqT.of (s2 _ _ e1)), dp_pair (SqT.of e2), rfl, rfl, ?_⟩
      have := kQ ht hb H2 (s1.trans s2)
      rw [eqv_pair]
      have e : decide ((lowS xs).1 = (low t b).1 ∧ (lowS xs).2 = (low t b).2) = decide (Ris xs ∧ lowS xs = low t b) := decide_eq_decide.mpr ⟨fun z => ⟨rs, Prod.ext z.1 z.2⟩, fun z => ⟨congrArg Prod.fst z.2, congrArg Prod.snd z.2⟩⟩
      rw [e]
      exact this

abbrev s_law_cell_at : Stmt := topS 11
abbrev N_law_cell_at : List Str := ["script", "k"]
theorem sc_law_cell_at : FnScope N_law_cell_at ["script", "k"] (defScope s_law_cell_at) := ⟨rfl, rfl, rfl, by decide +kernel, rfl, by decide +kernel, by decide +kernel⟩
/-- script[k], nought beyond the end -/
def cell (ns : List Int) (k : Nat) : Int := ns.getD k 0
theorem cell_arg {a : Addr} {x : Int} {k : Nat} (h : x = k) : [V.ref a, V.int x] = [V.ref a, V.int (k : Int)] := by rw [h]
def sp_law_cell_at (K : PySem.W.Frag) (_ : ErrA) : Sp := fun vs H Q _ => ∃ (a : Addr) (ns : List Int) (k : Nat), vs = [.ref a, .int k] ∧ SqL K H a (ns.map V.int) ∧ ns.length ≤ 63 ∧ Q (.int (cell ns k)) H
theorem ok_law_cell_at (D : Stands K mg "_law_cell_at" s_law_cell_at) (B : Bi mg) (Er : ErrOk K mg e) : Keeps P w K mg base 1 "_law_cell_at" ["script", "k"] (sp_law_cell_at K e) := by
  obtain ⟨f, fd, F, mF⟩ := D
  refine ⟨f, fd, ?_, F.binds (ps := ["script", "k"]) (fun _ _ _ _ _ _ us hl => match us, hl with | [_, _], _ => rfl), mF, F.kp⟩
  refine toX (F.ok sc_law_cell_at (fun vs H Q E h => ?_) (fun cdv A outer s H vs Q E hr h => ?_))
  · obtain ⟨a, ns, k, rfl, hS, hk, q⟩ := h
    rfl
  · obtain ⟨a, ns, k, rfl, hS, hk, q⟩ := h
    refine ⟨_, (pss_cons (ps_if (pt_cmpR op_lt (pv 1) (pe_callB call_len_seq (by rfl) B.len (by decide +kernel) (pa_cons (pv 0) pa_nil)) (nomark _)) (pss_one (ps_ret (pe_ix ix_list (pv 0) (pv 1) (fun _ _ => rfl)))) pss_nil)
      (pss_one (ps_ret pe_int))), ?_⟩
    refine ⟨_, rfl, _, rfl, a, _, rfl, .inl hS, _, _, rfl, rfl, _, rfl, ite2 (fun c => ?_) (fun c => ?_)⟩
    · have c := of_decide_eq_true c
      rw [List.length_map] at c
      have hl : k < ns.length := by omega
      have g : ns[k]? = some (cell ns k) := by
        unfold cell
        rw [List.getD_eq_getElem?_getD, List.getElem?_eq_getElem hl] <;> rfl
      exact ⟨_, rfl, _, rfl, a, _, _, _, rfl, rfl, hS, atI_nat (get_map g), q⟩
    · have z : cell ns k = 0 := by
        unfold cell
        rw [List.getD_eq_getElem?_getD, List.getElem?_eq_none] <;> first | rfl | skip
        have c : ¬ ((k : Int) < ((ns.map V.int).length : Int)) := fun z => c (decide_eq_true z)
        rw [List.length_map] at c
        omega
      rw [z] at q
      exact q

abbrev s_law_whole : Stmt := topS 12
abbrev N_law_whole : List Str := ["found"]
theorem sc_law_whole : FnScope N_law_whole ["found"] (defScope s_law_whole) := ⟨rfl, rfl, rfl, by decide +kernel, rfl, by decide +kernel, by decide +kernel⟩
def sp_law_whole (K : PySem.W.Frag) (_ : ErrA) : Sp := fun vs H Q _ => ∃ i : Int, vs = [.int i] ∧ Q (.bl true) H
theorem ok_law_whole (D : Stands K mg "_law_whole" s_law_whole) (B : Bi mg) (Er : ErrOk K mg e) : Keeps P w K mg base 1 "_law_whole" ["found"] (sp_law_whole K e) := by
  obtain ⟨f, fd, F, mF⟩ := D
  refine ⟨f, fd, ?_, F.binds (ps := ["found"]) (fun _ _ _ _ _ _ us hl => match us, hl with | [_], _ => rfl), mF, F.kp⟩
  refine toX (F.ok sc_law_whole (fun vs H Q E h => ?_) (fun cdv A outer s H vs Q E hr h => ?_))
  · obtain ⟨i, rfl, q⟩ := h
    rfl
  · obtain ⟨i, rfl, q⟩ := h
    refine ⟨_, (pss_one (ps_ret (pe_and (pe_callB call_isi (by rfl) B.isinstance (by decide +kernel) (pa_cons (pv 0) (pa_cons (pe_bltn (v := .ty "int") (by rfl) B.int (by decide +kernel) rfl) pa_nil))) (pe_one (pe_not (pe_callB call_isi (by rfl) B.isinstance (by decide +kernel) (pa_cons (pv 0) (pa_cons (pe_bltn (v := .ty "bool") (by rfl) B.bool (by decide +kernel) rfl) pa_nil)))))))), ?_⟩
    refine ⟨_, rfl, _, _, _, _, true, rfl, .ty "int", .base (.int i), kit_ty (by decide +kernel), true, rfl, iteT ?_⟩
    exact ⟨_, rfl, _, _, _, _, false, rfl, .ty "bool", .base (.int i), kit_ty (by decide +kernel), false, rfl, q⟩

abbrev s_law_common : Stmt := topS 13
abbrev N_law_common : List Str := ["one", "other", "rest"]
theorem sc_law_common : FnScope N_law_common ["one", "other"] (defScope s_law_common) := ⟨rfl, rfl, rfl, by decide +kernel, rfl, by decide +kernel, by decide +kernel⟩
def sp_law_common (K : PySem.W.Frag) (_ : ErrA) : Sp := fun vs H Q _ => ∃ x y : Int, vs = [.int x, .int y] ∧ 0 ≤ x ∧ 0 ≤ y ∧ Q (.int (gc x y)) H
theorem ok_law_common (D : Stands K mg "_law_common" s_law_common) (B : Bi mg) (Er : ErrOk K mg e) : Keeps P w K mg base 1 "_law_common" ["one", "other"] (sp_law_common K e) := by
  obtain ⟨f, fd, F, mF⟩ := D
  refine ⟨f, fd, ?_, F.binds (ps := ["one", "other"]) (fun _ _ _ _ _ _ us hl => match us, hl with | [_, _], _ => rfl), mF, F.kp⟩
  refine toX (F.ok sc_law_common (fun vs H Q E h => ?_) (fun cdv A outer s H vs Q E hr h => ?_))
  · obtain ⟨x, y, rfl, hx, hy, q⟩ := h
    rfl
  · obtain ⟨x, y, rfl, hx, hy, q⟩ := h
    refine ⟨_, (pss_cons (ps_while PassesOwn.never (pt_cmpR op_gt (pv 1) pe_int (nomark _)) (pss_cons (ps_set (i := 2) sc_law_common.nd rfl (Or.inl rfl) (pe_op op_mod (pv 0) (pv 1)))
      (pss_cons (ps_set (i := 0) sc_law_common.nd rfl (Or.inl rfl) (pv 1))
      (pss_one (ps_set (i := 1) sc_law_common.nd rfl (Or.inl rfl) (pv 2))))))
      (pss_one (ps_ret (pv 0)))), ?_⟩
    refine while_by (fun σ H' => H' = H ∧ ∃ (u v : Int) (r : Option V), σ = [some (.int u), some (.int v), r] ∧ 0 ≤ u ∧ 0 ≤ v ∧ gc u v = gc x y)
      (fun σ _ => match σ with | [_, some (.int v), _] => v.toNat | _ => 0) ⟨rfl, x, y, none, rfl, hx, hy, rfl⟩ ?_ ?_
    · rintro σ H' ⟨rfl, u, v, r, rfl, hu, hv, hg⟩
      refine ⟨_, rfl, _, _, rfl, rfl, _, rfl, ite2 (fun c => ?_) (fun c => ?_)⟩
      · have c := of_decide_eq_true c
        have m1 := Int.emod_nonneg u (b := v) (by omega)
        have m2 := Int.emod_lt_of_pos u c
        refine ⟨_, rfl, _, rfl, _, _, rfl, rfl, c, _, rfl, _, rfl, ⟨rfl, v, u % v, _, rfl, hv, m1, gc_step.trans hg⟩, ?_⟩
        show (u % v).toNat < v.toNat
        omega
      · have c : ¬ 0 < v := fun z => c (decide_eq_true z)
        have v0 : v = 0 := by omega
        subst v0
        rw [gc_zero hu] at hg
        refine ⟨_, rfl, ?_⟩
        rw [hg]
        exact q
    · rintro σ H' Q1 Q2 hq ⟨v, e1, i, j, e2, e3, k, e4, e5⟩
      exact ⟨v, e1, i, j, e2, e3, k, e4, hq _ _ e5⟩

abbrev s_law_lowest : Stmt := topS 14
abbrev N_law_lowest : List Str := ["top", "bottom", "far"]
theorem sc_law_lowest : FnScope N_law_lowest ["top", "bottom"] (defScope s_law_lowest) := ⟨rfl, rfl, rfl, by decide +kernel, rfl, by decide +kernel, by decide +kernel⟩
def sp_law_lowest (K : PySem.W.Frag) (_ : ErrA) : Sp := fun vs H Q _ => ∃ t b : Int, vs = [.int t, .int b] ∧ 0 ≤ t ∧ 1 ≤ b ∧ Sz 9000 b ∧
  ∀ H' p, Same H H' → H p = none → H' p = some (.tup [.int (low t b).1, .int (low t b).2]) → Q (.ref p) H'
theorem ok_law_lowest (D : Stands K mg "_law_lowest" s_law_lowest) (B : Bi mg) (Er : ErrOk K mg e)
    (h_law_common : Keeps P w K mg base 1 "_law_common" ["one", "other"] (sp_law_common K e)) : Keeps P w K mg base 2 "_law_lowest" ["top", "bottom"] (sp_law_lowest K e) := by
  obtain ⟨f, fd, F, mF⟩ := D
  obtain ⟨f_law_common, fd_law_common, G_law_common, b_law_common, m_law_common, k_law_common⟩ := h_law_common
  refine ⟨f, fd, ?_, F.binds (ps := ["top", "bottom"]) (fun _ _ _ _ _ _ us hl => match us, hl with | [_, _], _ => rfl), mF, F.kp⟩
  refine toX (F.ok sc_law_lowest (fun vs H Q E h => ?_) (fun cdv A outer s H vs Q E hr h => ?_))
  · obtain ⟨t, b, rfl, ht, hb, hz, q⟩ := h
    rfl
  · obtain ⟨t, b, rfl, ht, hb, hz, q⟩ := h
    refine ⟨_, (pss_cons (ps_set (i := 2) sc_law_lowest.nd rfl (Or.inl rfl) (pe_call G_law_common (hr.mono (by decide)) (by rfl) m_law_common k_law_common b_law_common .nil passL (pa_cons (pv 0) (pa_cons (pv 1) pa_nil))))
      (pss_one (ps_ret (pe_tup (pa_cons (pe_op op_fdivW (pv 0) (pv 2)) (pa_cons (pe_op op_fdivW (pv 1) (pv 2)) pa_nil)))))), ?_⟩
    have hf := gc_pos (t := t) hb
    have hfz : Sz 9000 (gc t b) := hz.le (by omega) (gc_le hb)
    refine ⟨_, rfl, _, rfl, t, b, rfl, ht, by omega, ?_⟩
    refine ⟨_, rfl, _, rfl, _, _, rfl, rfl, hfz.cd hf, _, rfl, _, rfl, _, _, rfl, rfl, hfz.cd hf, by show 2 ≤ sizeLine; decide, fun p hp => ?_⟩
    exact q _ p (same_new hp) hp upd_same

abbrev s_law_sum : Stmt := topS 15
abbrev N_law_sum : List Str := ["shares", "top", "bottom", "share"]
theorem sc_law_sum : FnScope N_law_sum ["shares"] (defScope s_law_sum) := ⟨rfl, rfl, rfl, by decide +kernel, rfl, by decide +kernel, by decide +kernel⟩
def sp_law_sum (K : PySem.W.Frag) (_ : ErrA) : Sp := fun vs H Q _ => ∃ (a : Addr) (xs : List Int), vs = [.ref a] ∧ SqL K H a (xs.map V.int) ∧ SumOk xs ∧
  ∀ H' p, Same H H' → H p = none → H' p = some (.tup [.int (lowS xs).1, .int (lowS xs).2]) → Q (.ref p) H'
theorem ok_law_sum (D : Stands K mg "_law_sum" s_law_sum) (B : Bi mg) (Er : ErrOk K mg e)
    (h_law_lowest : Keeps P w K mg base 2 "_law_lowest" ["top", "bottom"] (sp_law_lowest K e)) : Keeps P w K mg base 3 "_law_sum" ["shares"] (sp_law_sum K e) := by
  obtain ⟨f, fd, F, mF⟩ := D
  obtain ⟨f_law_lowest, fd_law_lowest, G_law_lowest, b_law_lowest, m_law_lowest, k_law_lowest⟩ := h_law_lowest
  refine ⟨f, fd, ?_, F.binds (ps := ["shares"]) (fun _ _ _ _ _ _ us hl => match us, hl with | [_], _ => rfl), mF, F.kp⟩
  refine toX (F.ok sc_law_sum (fun vs H Q E h => ?_) (fun cdv A outer s H vs Q E hr h => ?_))
  · obtain ⟨a, xs, rfl, hS, ok, q⟩ := h
    rfl
  · obtain ⟨a, xs, rfl, hS, ok, q⟩ := h
    refine ⟨_, (pss_cons (ps_set (i := 1) sc_law_sum.nd rfl (Or.inl rfl) pe_int)
      (pss_cons (ps_set (i := 2) sc_law_sum.nd rfl (Or.inl rfl) pe_int)
      (pss_cons (ps_for PassesOwn.never rfl (pi_list (pv 0)) (pg_name (i := 3) sc_law_sum.nd rfl (Or.inl rfl)) (pss_cons (ps_set (i := 1) sc_law_sum.nd rfl (Or.inl rfl) (pe_op op_add (pe_op op_mulW (pv 1) (pv 3)) (pv 2)))
      (pss_one (ps_set (i := 2) sc_law_sum.nd rfl (Or.inl rfl) (pe_op op_mulW (pv 2) (pv 3))))))
      (pss_one (ps_ret (pe_call G_law_lowest (hr.mono (by decide)) (by rfl) m_law_lowest k_law_lowest b_law_lowest .nil passL (pa_cons (pv 1) (pa_cons (pv 2) pa_nil)))))))), ?_⟩
    refine ⟨_, rfl, a, rfl, ⟨_, hS⟩, for_list (K := K) (a := a) (xs := xs.map V.int) (fun i σ H' => H' = H ∧ ∃ v : Option V, σ = [some (.ref a), some (.int (sumS (xs.take i)).1), some (.int (sumS (xs.take i)).2), v])
      ⟨rfl, none, rfl⟩ (fun i σ H' _ h => h.1 ▸ hS) ?_ ?_⟩
    · rintro i y σ H' hy ⟨rfl, v, rfl⟩
      obtain ⟨s, es, rfl⟩ := of_get_map hy
      have k := ok.take i
      obtain ⟨s1, s2⟩ := ok.item es
      refine ⟨_, rfl, _, rfl, _, _, rfl, rfl, k.top.cm s2, _, rfl, _, _, rfl, rfl, _, rfl, _, rfl, _, _, rfl, rfl, k.sz.cm s2, rfl, some (.int s), ?_⟩
      rw [take_snoc es, sumS_snoc] <;> rfl
    · rintro σ H' ⟨rfl, v, rfl⟩
      rw [List.length_map, List.take_length]
      obtain ⟨a1, a2, a3⟩ := sumS_pos _ ok.pos
      exact ⟨_, rfl, _, rfl, _, _, rfl, a1, a2, ok.sz.mono, fun H' p s hp e => q H' p s hp e⟩

abbrev s_law_fraction : Stmt := topS 16
abbrev N_law_fraction : List Str := ["found", "due"]
theorem sc_law_fraction : FnScope N_law_fraction ["found", "due"] (defScope s_law_fraction) := ⟨rfl, rfl, rfl, by decide +kernel, rfl, by decide +kernel, by decide +kernel⟩
/-- two equal pairs -/
def sp_law_fraction (K : PySem.W.Frag) (_ : ErrA) : Sp := fun vs H Q _ => ∃ (a b : Addr) (t u : Int), vs = [.ref a, .ref b] ∧ SqT K H a [.int t, .int u] ∧ SqT K H b [.int t, .int u] ∧ Q (.bl true) H
theorem ok_law_fraction (D : Stands K mg "_law_fraction" s_law_fraction) (B : Bi mg) (Er : ErrOk K mg e)
    (h_law_whole : Keeps P w K mg base 1 "_law_whole" ["found"] (sp_law_whole K e)) : Keeps P w K mg base 2 "_law_fraction" ["found", "due"] (sp_law_fraction K e) := by
  obtain ⟨f, fd, F, mF⟩ := D
  obtain ⟨f_law_whole, fd_law_whole, G_law_whole, b_law_whole, m_law_whole, k_law_whole⟩ := h_law_whole
  refine ⟨f, fd, ?_, F.binds (ps := ["found", "due"]) (fun _ _ _ _ _ _ us hl => match us, hl with | [_, _], _ => rfl), mF, F.kp⟩
  refine toX (F.ok sc_law_fraction (fun vs H Q E h => ?_) (fun cdv A outer s H vs Q E hr h => ?_))
  · obtain ⟨a, b, t, u, rfl, hA, hB, q⟩ := h
    rfl
  · obtain ⟨a, b, t, u, rfl, hA, hB, q⟩ := h
    refine ⟨_, (pss_cons (ps_if (PW.pt (pw_or (pt_not (pt_val (pe_callB call_isi (by rfl) B.isinstance (by decide +kernel) (pa_cons (pv 0) (pa_cons (pe_bltn (v := .ty "tuple") (by rfl) B.tuple (by decide +kernel) rfl) pa_nil))))) (pw_or (pt_cmpR op_ne (pe_callB call_len_seq (by rfl) B.len (by decide +kernel) (pa_cons (pv 0) pa_nil)) pe_int (nomark _)) (pw_or (pt_not (pt_val (pe_call G_law_whole (hr.mono (by decide)) (by rfl) m_law_whole k_law_whole b_law_whole .nil passL (pa_cons (pe_ix ix_tup (pv 0) pe_int (fun _ _ => rfl)) pa_nil)))) (pw_or1 (pt_not (pt_val (pe_call G_law_whole (hr.mono (by decide)) (by rfl) m_law_whole k_law_whole b_law_whole .nil passL (pa_cons (pe_ix ix_tup (pv 0) pe_int (fun _ _ => rfl)) pa_nil))))))))) (pss_one (ps_ret pe_bl)) pss_nil)
      (pss_one (ps_ret (pe_cmpR (op_eqD hr.units) (pv 0) (pv 1) (nomark _))))), ?_⟩
    refine ⟨_, rfl, _, _, _, _, true, rfl, .ty "tuple", ty_tup hA, kit_ty (by decide +kernel), true, rfl, ?_⟩
    show if (!true) = true then _ else _
    refine iteF ?_
    refine ⟨_, rfl, a, _, rfl, .inr hA, rfl, _, rfl, ?_⟩
    show if (!decide ((2 : Int) = 2)) = true then _ else _
    refine iteF ?_
    refine ⟨_, rfl, a, _, 0, _, rfl, rfl, hA, atI_nat (j := 0) rfl, _, rfl, true, rfl, ?_⟩
    show if (!true) = true then _ else _
    refine iteF ?_
    refine ⟨_, rfl, a, _, 1, _, rfl, rfl, hA, atI_nat (j := 1) rfl, _, rfl, true, rfl, ?_⟩
    show if (!true) = true then _ else _
    refine iteF ?_
    refine ⟨_, rfl, _, rfl, _, _, dp_pair hA, dp_pair hB, rfl, rfl, ?_⟩
    rw [eqv_pair, decide_eq_true ⟨rfl, rfl⟩]
    exact q

abbrev s_law_share : Stmt := topS 18
abbrev N_law_share : List Str := ["cell"]
theorem sc_law_share : FnScope N_law_share ["cell"] (defScope s_law_share) := ⟨rfl, rfl, rfl, by decide +kernel, rfl, by decide +kernel, by decide +kernel⟩
def sp_law_share (K : PySem.W.Frag) (_ : ErrA) : Sp := fun vs H Q _ => ∃ z : Int, vs = [.int z] ∧ ∀ x : Int, 1 ≤ x → Sz 101 x → Q (.int x) H
theorem ten30 : (10 ^ 30 : Nat) < 2 ^ 100 := by decide +kernel
theorem ok_law_share (D : Stands K mg "_law_share" s_law_share) (B : Bi mg) (Er : ErrOk K mg e) : Keeps P w K mg base 1 "_law_share" ["cell"] (sp_law_share K e) := by
  obtain ⟨f, fd, F, mF⟩ := D
  refine ⟨f, fd, ?_, F.binds (ps := ["cell"]) (fun _ _ _ _ _ _ us hl => match us, hl with | [_], _ => rfl), mF, F.kp⟩
  refine toX (F.ok sc_law_share (fun vs H Q E h => ?_) (fun cdv A outer s H vs Q E hr h => ?_))
  · obtain ⟨z, rfl, q⟩ := h
    rfl
  · obtain ⟨z, rfl, q⟩ := h
    refine ⟨_, (pss_cons (ps_if (pt_cmpR op_eq (pe_op op_mod (pv 0) pe_int) pe_int (nomark _)) (pss_one (ps_ret (pe_op op_add pe_int (pe_op op_mod (pe_op op_fdivW (pv 0) pe_int) (pe_op op_pow pe_int pe_int))))) pss_nil)
      (pss_one (ps_ret (pe_op op_add pe_int (pe_op op_mod (pe_op op_fdivW (pv 0) pe_int) pe_int))))), ?_⟩
    refine ⟨_, rfl, _, _, rfl, rfl, by show (0 : Int) < 5; decide, rfl, _, rfl, ite2 (fun c => ?_) (fun c => ?_)⟩
    · refine ⟨_, rfl, _, _, rfl, rfl, (Sz.lit : Sz 3 5).cd (by decide), _, _, rfl, rfl, ⟨by decide, by decide, by decide⟩, ?_⟩
      have e : (10 : Int) ^ (30 : Int).toNat = ((10 ^ 30 : Nat) : Int) := by decide +kernel
      have g0 : (0 : Int) < ((10 ^ 30 : Nat) : Int) := by decide +kernel
      refine ⟨_, _, rfl, rfl, by show (0 : Int) < 10 ^ (30 : Int).toNat; rw [e]; exact g0, _, _, rfl, rfl, ?_⟩
      show Q (.int (1 + z / 5 % 10 ^ (30 : Int).toNat)) H
      rw [e]
      have gs : Sz 100 ((10 ^ 30 : Nat) : Int) := ten30
      generalize ((10 ^ 30 : Nat) : Int) = g at g0 gs
      have m1 := Int.emod_nonneg (z / 5) (b := g) (by omega)
      have m2 := Int.emod_lt_of_pos (z / 5) g0
      exact q _ (by omega) ((Sz.one (a := 100)).add (gs.le m1 (by omega)))
    · refine ⟨_, rfl, _, _, rfl, rfl, (Sz.lit : Sz 3 5).cd (by decide), _, _, rfl, rfl, by show (0 : Int) < 40; decide, _, _, rfl, rfl, ?_⟩
      refine q _ (by omega) (Sz.mono (a := 7) ?_)
      show (1 + z / 5 % 40).natAbs < 128
      omega

abbrev s_law : Stmt := topS 19
abbrev N_law : List Str := ["script", "shares", "handed", "due", "times", "fraction", "found", "right", "k"]
theorem sc_law : FnScope N_law ["script"] (defScope s_law) := ⟨rfl, rfl, rfl, by decide +kernel, rfl, by decide +kernel, by decide +kernel⟩
/-- a few shares, each of at most 101 bits -/
structure Few (xs : List Int) : Prop where
  len : xs.length ≤ 10
  each : ∀ x ∈ xs, (1 : Int) ≤ x ∧ Sz 101 x
theorem few_sz (xs : List Int) : (∀ x ∈ xs, (1 : Int) ≤ x ∧ Sz 101 x) → Sz (101 * xs.length + 1) (sumS xs).2 := by
  refine snoc_ind (fun xs => (∀ x ∈ xs, (1 : Int) ≤ x ∧ Sz 101 x) → Sz (101 * xs.length + 1) (sumS xs).2) xs (fun _ => Sz.one) (fun l x ih h => ?_)
  have h1 := ih fun y hy => h y (List.mem_append_left _ hy)
  have h2 := (h x (List.mem_append_right _ List.mem_cons_self)).2
  rw [sumS_snoc, List.length_append]
  exact (h1.mul h2).mono (by show 101 * l.length + 1 + 101 ≤ 101 * (l.length + 1) + 1; omega)
theorem Few.ok {xs : List Int} (h : Few xs) : SumOk xs where
  pos := fun x hx => (h.each x hx).1
  sz := (few_sz xs h.each).mono (by have := h.len; omega)
  len := Nat.le_trans h.len (by decide)
/-- the answer is the right one -/
theorem way_right {xs : List Int} (ok : SumOk xs) {t r : Int} (ht : 1 ≤ t) (hr : r = 0 ∨ r = 1) :
    decide (Ris xs ∧ lowS xs = low ((lowS xs).1 * t + r) ((lowS xs).2 * t)) = (decide (Ris xs) && decide (r = 0)) := by
  obtain ⟨a1, a2, a3⟩ := sumS_pos _ ok.pos
  have b1 : 1 ≤ (lowS xs).2 := low_bpos a2
  have key : lowS xs = low ((lowS xs).1 * t + r) ((lowS xs).2 * t) ↔ r = 0 := by
    constructor
    · intro e
      have e' : low (lowS xs).1 (lowS xs).2 = low ((lowS xs).1 * t + r) ((lowS xs).2 * t) := (low_low a2).trans e
      have c := low_of_eq b1 e'
      rw [Int.add_mul, Int.mul_assoc, Int.mul_comm t, ← Int.mul_assoc] at c
      rcases hr with z | z
      · exact z
      · rw [z, Int.one_mul] at c
        generalize (lowS xs).1 * (lowS xs).2 * t = m at *
        omega
    · rintro rfl
      rw [Int.add_zero, low_scale (by omega)]
      exact (low_low a2).symm
  rw [Bool.eq_iff_iff]
  simp [key]
def sp_law (K : PySem.W.Frag) : Sp := fun vs H Q _ => ∃ (a : Addr) (ns : List Int), vs = [.ref a] ∧ SqL K H a (ns.map V.int) ∧ ns.length ≤ 63 ∧ ∀ H', Q (.bl true) H'
theorem ok_law {f : Addr} {fd : FuncData} (F : Fun K "law" "law" s_law f fd) (B : Bi mg) (Er : ErrOk K mg e)
    (h_law_sum : Keeps P w K mg base 3 "_law_sum" ["shares"] (sp_law_sum K e))
    (h_is_way : Keeps P w K mg base 5 "is_way" ["fraction", "shares"] (sp_is_way K e))
    (h_law_share : Keeps P w K mg base 1 "_law_share" ["cell"] (sp_law_share K e))
    (h_law_cell_at : Keeps P w K mg base 1 "_law_cell_at" ["script", "k"] (sp_law_cell_at K e))
    (h_law_fraction : Keeps P w K mg base 2 "_law_fraction" ["found", "due"] (sp_law_fraction K e))
    (h_sum_of : Keeps P w K mg base 4 "sum_of" ["shares"] (sp_sum_of K e)) : FnOk P w K mg base CX0 6 f fd ["script"] (sp_law K) := by
  obtain ⟨f_law_sum, fd_law_sum, G_law_sum, b_law_sum, m_law_sum, k_law_sum⟩ := h_law_sum
  obtain ⟨f_is_way, fd_is_way, G_is_way, b_is_way, m_is_way, k_is_way⟩ := h_is_way
  obtain ⟨f_law_share, fd_law_share, G_law_share, b_law_share, m_law_share, k_law_share⟩ := h_law_share
  obtain ⟨f_law_cell_at, fd_law_cell_at, G_law_cell_at, b_law_cell_at, m_law_cell_at, k_law_cell_at⟩ := h_law_cell_at
  obtain ⟨f_law_fraction, fd_law_fraction, G_law_fraction, b_law_fraction, m_law_fraction, k_law_fraction⟩ := h_law_fraction
  obtain ⟨f_sum_of, fd_sum_of, G_sum_of, b_sum_of, m_sum_of, k_sum_of⟩ := h_sum_of
  refine F.ok sc_law (fun vs H Q E h => ?_) (fun cdv A outer s H vs Q E hr h => ?_)
  · obtain ⟨a, ns, rfl, _⟩ := h
    rfl
  · obtain ⟨a, ns, rfl, hS, hlen, kq⟩ := h
    refine ⟨_, (pss_cons (ps_setLc (i := 1) (own := [("k", 8)]) (g := gName 8) (tt := tYes) (by rfl) sc_law.nd rfl rfl (sw_true rfl rfl rfl (by decide +kernel)) (pi_range1 (by rfl) B.range (pa_cons (pe_op op_mod (pe_call G_law_cell_at (hr.mono (by decide)) (by rfl) m_law_cell_at k_law_cell_at b_law_cell_at .nil passL (pa_cons (pv 0) (pa_cons pe_int pa_nil))) pe_int) pa_nil)) (blkOk_by (N := N_law) (sc := defScope s_law) (by decide +kernel)) (fun _ _ _ _ _ => pg_name (i := 8) sc_law.nd rfl (Or.inl rfl)) (fun _ _ _ _ _ => pts_nil) (fun _ _ _ _ _ => (pe_call G_law_share (hr.mono (by decide)) (by rfl) m_law_share k_law_share b_law_share .nil passL (pa_cons (pe_call G_law_cell_at (hr.mono (by decide)) (by rfl) m_law_cell_at k_law_cell_at b_law_cell_at .nil passL (pa_cons (pv 0) (pa_cons (pe_op op_add pe_int (pv 8)) pa_nil))) pa_nil))))
      (pss_cons (ps_if (pt_cmpR op_eq (pe_op op_mod (pe_call G_law_cell_at (hr.mono (by decide)) (by rfl) m_law_cell_at k_law_cell_at b_law_cell_at .nil passL (pa_cons (pv 0) (pa_cons pe_int pa_nil))) pe_int) pe_int (nomark _)) (pss_one (ps_set (i := 1) sc_law.nd rfl (Or.inl rfl) (pe_callB (cr_sortedSet rfl) (by rfl) B.sorted (by decide +kernel) (pa_cons (pe_callTy (cr_setL rfl) (by rfl) B.set (by decide +kernel) (pa_cons (pv 1) pa_nil)) pa_nil)))) pss_nil)
      (pss_cons (ps_set (i := 2) sc_law.nd rfl (Or.inl rfl) (pe_callTy call_list_of (by rfl) B.list (by decide +kernel) (pa_cons (pv 1) pa_nil)))
      (pss_cons (ps_set (i := 3) sc_law.nd rfl (Or.inl rfl) (pe_call G_law_sum (hr.mono (by decide)) (by rfl) m_law_sum k_law_sum b_law_sum .nil passL (pa_cons (pv 1) pa_nil)))
      (pss_cons (ps_if (PW.pt (pw_or (pt_not (pt_val (pe_call G_law_fraction (hr.mono (by decide)) (by rfl) m_law_fraction k_law_fraction b_law_fraction .nil passL (pa_cons (pe_call G_sum_of (hr.mono (by decide)) (by rfl) m_sum_of k_sum_of b_sum_of .nil passL (pa_cons (pv 2) pa_nil)) (pa_cons (pv 3) pa_nil))))) (pw_or1 (pt_cmpR (op_neD hr.units) (pv 2) (pv 1) (nomark _))))) (pss_one (ps_ret pe_bl)) pss_nil)
      (pss_cons (ps_set (i := 4) sc_law.nd rfl (Or.inl rfl) (pe_op op_add pe_int (pe_op op_mod (pe_op op_fdivW (pe_call G_law_cell_at (hr.mono (by decide)) (by rfl) m_law_cell_at k_law_cell_at b_law_cell_at .nil passL (pa_cons (pv 0) (pa_cons pe_int pa_nil))) pe_int) pe_int)))
      (pss_cons (ps_set (i := 5) sc_law.nd rfl (Or.inl rfl) (pe_tup (pa_cons (pe_op op_add (pe_op op_mulW (pe_ix ix_tup (pv 3) pe_int (fun _ _ => rfl)) (pv 4)) (pe_op op_mod (pe_call G_law_cell_at (hr.mono (by decide)) (by rfl) m_law_cell_at k_law_cell_at b_law_cell_at .nil passL (pa_cons (pv 0) (pa_cons pe_int pa_nil))) pe_int)) (pa_cons (pe_op op_mulW (pe_ix ix_tup (pv 3) pe_int (fun _ _ => rfl)) (pv 4)) pa_nil))))
      (pss_cons (ps_set (i := 6) sc_law.nd rfl (Or.inl rfl) (pe_call G_is_way (hr.mono (by decide)) (by rfl) m_is_way k_is_way b_is_way .nil passL (pa_cons (pv 5) (pa_cons (pv 2) pa_nil))))
      (pss_cons (ps_set (i := 7) sc_law.nd rfl (Or.inl rfl) (pe_and (pe_cmpR (op_eqD hr.units) (pv 1) (pe_callB (cr_sortedSet rfl) (by rfl) B.sorted (by decide +kernel) (pa_cons (pe_callTy (cr_setL rfl) (by rfl) B.set (by decide +kernel) (pa_cons (pv 1) pa_nil)) pa_nil)) (nomark _)) (pe_one (pe_cmpR op_eq (pe_op op_mod (pe_call G_law_cell_at (hr.mono (by decide)) (by rfl) m_law_cell_at k_law_cell_at b_law_cell_at .nil passL (pa_cons (pv 0) (pa_cons pe_int pa_nil))) pe_int) pe_int (nomark _)))))
      (pss_one (ps_ret (pe_and (pe_callB call_isi (by rfl) B.isinstance (by decide +kernel) (pa_cons (pv 6) (pa_cons (pe_bltn (v := .ty "bool") (by rfl) B.bool (by decide +kernel) rfl) pa_nil))) (pe_and (pe_cmpR op_eq (pv 6) (pv 7) (nomark _)) (pe_one (pe_cmpR (op_eqD hr.units) (pv 2) (pv 1) (nomark _)))))))))))))))), ?_⟩
    obtain ⟨n, en⟩ : ∃ n : Nat, cell ns 0 % 11 = (n : Int) := ⟨(cell ns 0 % 11).toNat, by omega⟩
    refine ⟨_, rfl, a, ns, 0, rfl, hS, hlen, _, _, rfl, rfl, by show (0 : Int) < 11; decide, _, rfl, by omega, by omega, fun D hD => ?_⟩
    refine lc_range (lo := 0) (n := _) (fun i H' => Same H H' ∧ ∃ xs : List Int, xs.length = i ∧ (∀ x ∈ xs, (1 : Int) ≤ x ∧ Sz 101 x) ∧ H' D = some (.lst (xs.map V.int))) ⟨same_new hD, [], rfl, (fun _ h => nomatch h), upd_same⟩ ?_ ?_
    · rintro i H' hi ⟨hs, xs, el, hx, he⟩
      refine ⟨rfl, _, rfl, _, rfl, _, _, rfl, rfl, a, ns, 3 + i, cell_arg (by omega), hs.seq hS, hlen, _, rfl, fun x x1 x2 => ?_⟩
      refine ⟨_, he, by rw [List.length_map]; exact szl_lt (by omega), same_mut hs hD, xs ++ [x], by rw [List.length_append, el] <;> rfl, fun y hy => ?_, by rw [upd_same, List.map_append] <;> rfl⟩
      rcases List.mem_append.mp hy with m | m
      · exact hx y m
      · rw [List.mem_singleton.mp m]
        exact ⟨x1, x2⟩
    · rintro H1 ⟨s1, xs, el, hx, e1⟩
      have few : Few xs := ⟨by omega, hx⟩
      dsimp only
      refine cut (fun σ' H' => ∃ (D : Addr) (xs : List Int), Same H H' ∧ Few xs ∧ H' D = some (.lst (xs.map V.int)) ∧ σ' = [some (.ref a), some (.ref D), none, none, none, none, none, none, none]) (fun R D' k => ?_) ?_
      · refine ⟨_, rfl, a, ns, 1, rfl, s1.seq hS, hlen, _, _, rfl, rfl, by show (0 : Int) < 2; decide, rfl, _, rfl, ite2 (fun c => ?_) (fun c => ?_)⟩
        · refine ⟨_, rfl, D, xs, rfl, SqL.of e1, by have := few.len; omega, fun p c np hc => ?_⟩
          refine ⟨p, _, _, rfl, upd_same, by have := few.len; omega, fun ys q pw mem hl nq => ?_⟩
          refine k _ _ ⟨q, ys, (s1.trans (same_new np)).trans (same_new nq), ⟨by have := few.len; omega, fun y hy => hx y (of_decide_eq_true ((mem y).mp hy))⟩, upd_same, rfl⟩
        · exact k _ _ ⟨D, xs, s1, few, e1, rfl⟩
      · clear few hx e1 el s1
        rintro σ H2 ⟨D2, xs, s2, few, e2, rfl⟩
        have ok := few.ok
        obtain ⟨a1, a2, a3⟩ := sumS_pos _ ok.pos
        have l1 : 0 ≤ (lowS xs).1 := low_tnn a2 a1
        have l2 : 1 ≤ (lowS xs).2 := low_bpos a2
        have z1 : Sz 4010 (lowS xs).1 := ok.top.le l1 (low_tle a1)
        have z2 : Sz 4000 (lowS xs).2 := ok.sz.le (by omega) (low_ble a2)
        refine ⟨_, rfl, D2, _, rfl, .inl (SqL.of e2), fun h nh => ?_⟩
        have eh : (upd H2 h (.lst (xs.map V.int))) h = some (.lst (xs.map V.int)) := upd_same
        have s3 := s2.trans (same_new (o := .lst (xs.map V.int)) nh)
        have e3 : (upd H2 h (.lst (xs.map V.int))) D2 = some (.lst (xs.map V.int)) := same_new nh _ _ e2
        generalize (upd H2 h (.lst (xs.map V.int))) = H3 at eh s3 e3
        refine ⟨_, rfl, D2, xs, rfl, SqL.of e3, ok, fun H4 d s4 nd ed => ?_⟩
        refine ⟨_, rfl, h, xs, rfl, SqL.of (s4 _ _ eh), ok, fun H5 r s5 nr er => ?_⟩
        refine ⟨_, rfl, r, d, _, _, rfl, SqT.of er, SqT.of (s5 _ _ ed), _, rfl, ?_⟩
        show if (!true) = true then _ else _
        refine iteF ?_
        have s6 := s4.trans s5
        have eh5 := s6 _ _ eh
        have eD5 := s6 _ _ e3
        have ed5 := s5 _ _ ed
        refine ⟨_, rfl, _, rfl, _, _, dp_ints (SqL.of eh5), dp_ints (SqL.of eD5), shaped_ints _, shaped_ints _, _, rfl, ?_⟩
        rw [eqv_ints, decide_eq_true rfl]
        show if (!true) = true then _ else _
        refine iteF ?_
        have sA := s3.trans s6
        obtain ⟨t, et⟩ : ∃ t : Int, 1 + cell ns 2 / 2 % 3 = t := ⟨_, rfl⟩
        obtain ⟨rr, er⟩ : ∃ r : Int, cell ns 2 % 2 = r := ⟨_, rfl⟩
        have t1 : 1 ≤ t := by omega
        have tz : Sz 2 t := by
          show t.natAbs < 4
          omega
        have r1 : rr = 0 ∨ rr = 1 := by omega
        refine ⟨_, rfl, a, ns, 2, rfl, sA.seq hS, hlen, _, _, rfl, rfl, (Sz.lit : Sz 2 2).cd (by decide), _, _, rfl, rfl, by show (0 : Int) < 3; decide, _, _, rfl, rfl, ?_⟩
        show (tSeq _ _) _ [some (.ref a), some (.ref D2), some (.ref h), some (.ref d), some (.int (1 + cell ns 2 / 2 % 3)), none, none, none, none] H5
        rw [et]
        refine ⟨_, rfl, d, _, 0, _, rfl, rfl, SqT.of ed5, atI_nat (j := 0) rfl, _, rfl, _, _, rfl, rfl, z1.cm tz, _, rfl, a, ns, 2, rfl, sA.seq hS, hlen, _, _, rfl, rfl, by show (0 : Int) < 2; decide, _, _, rfl, rfl, ?_⟩
        refine ⟨_, rfl, d, _, 1, _, rfl, rfl, SqT.of ed5, atI_nat (j := 1) rfl, _, rfl, _, _, rfl, rfl, z2.cm tz, by show 2 ≤ sizeLine; decide, fun f nf => ?_⟩
        show (tSeq _ _) _ [some (.ref a), some (.ref D2), some (.ref h), some (.ref d), some (.int t), some (.ref f), none, none, none] (upd H5 f (.tup [.int ((lowS xs).1 * t + cell ns 2 % 2), .int ((lowS xs).2 * t)]))
        rw [er]
        have s7 := same_new (o := .tup [.int ((lowS xs).1 * t + rr), .int ((lowS xs).2 * t)]) nf
        have ef : (upd H5 f (.tup [.int ((lowS xs).1 * t + rr), .int ((lowS xs).2 * t)])) f = some (.tup [.int ((lowS xs).1 * t + rr), .int ((lowS xs).2 * t)]) := upd_same
        generalize (upd H5 f (.tup [.int ((lowS xs).1 * t + rr), .int ((lowS xs).2 * t)])) = H6 at s7 ef
        have q1 : 0 ≤ (lowS xs).1 * t := Int.mul_nonneg l1 (by omega)
        have q2 : 0 < (lowS xs).2 * t := Int.mul_pos (by omega) (by omega)
        refine ⟨_, rfl, _, rfl, f, h, _, _, xs, rfl, SqT.of ef, SqL.of (s7 _ _ eh5), ok, (z2.mul tz).mono, fun z => absurd z (by omega), fun _ _ H7 s8 => ?_⟩
        rw [way_right ok t1 r1]
        have sB := (sA.trans s7).trans s8
        have eh7 := s8 _ _ (s7 _ _ eh5)
        have eD7 := s8 _ _ (s7 _ _ eD5)
        refine ⟨_, rfl, _, rfl, D2, xs, rfl, SqL.of eD7, by have := few.len; omega, fun p c np hc => ?_⟩
        refine ⟨p, _, _, rfl, upd_same, by have := few.len; omega, fun ys q pw mem hl nq => ?_⟩
        have s9 := (same_new (o := SetO w p (fun j => decide (j ∈ xs)) c) np).trans (same_new (o := .lst (ys.map V.int)) nq)
        have eq : (upd (upd H7 p (SetO w p (fun j => decide (j ∈ xs)) c)) q (.lst (ys.map V.int))) q = some (.lst (ys.map V.int)) := upd_same
        have er9 : decide (xs = ys) = decide (Ris xs) := decide_eq_decide.mpr ⟨fun z => z ▸ pw, fun z => ris_uniq z pw fun k => by rw [mem k]; simp⟩
        refine ⟨_, _, dp_ints (SqL.of (s9 _ _ eD7)), dp_ints (SqL.of eq), shaped_ints _, shaped_ints _, _, rfl, ?_⟩
        rw [eqv_ints, er9]
        have last : ∀ b : Bool, b = (decide (Ris xs) && decide (rr = 0)) → (tRet (tAndV (tCB (rIsi K) (tCons (tVar 6) (tCons (tC (.ty "bool")) tNil))) (tAndV (tOp rEq (tVar 6) (tVar 7)) (tOp (rEqD K) (tVar 2) (tVar 1))))) { nx := fun _ H' => Q .non H', rt := Q }
            [some (.ref a), some (.ref D2), some (.ref h), some (.ref d), some (.int t), some (.ref f), some (.bl (decide (Ris xs) && decide (rr = 0))), some (.bl b), none] (upd (upd H7 p (SetO w p (fun j => decide (j ∈ xs)) c)) q (.lst (ys.map V.int))) := by
          rintro b rfl
          refine ⟨_, rfl, _, _, _, _, true, rfl, .ty "bool", .base (.bl _), kit_ty (by decide +kernel), true, rfl, iteT ?_⟩
          refine ⟨_, rfl, _, rfl, rfl, true, by rw [decide_eq_true rfl], iteT ?_⟩
          refine ⟨_, rfl, _, rfl, _, _, dp_ints (SqL.of (s9 _ _ eh7)), dp_ints (SqL.of (s9 _ _ eD7)), shaped_ints _, shaped_ints _, ?_⟩
          rw [eqv_ints, decide_eq_true rfl]
          exact kq _
        refine ite2 (fun c => ?_) (fun c => ?_)
        · refine ⟨_, rfl, a, ns, 2, rfl, (sB.trans s9).seq hS, hlen, _, _, rfl, rfl, by show (0 : Int) < 2; decide, rfl, ?_⟩
          refine last _ ?_
          rw [c, Bool.true_and]
          refine decide_eq_decide.mpr ⟨fun z => ?_, fun z => ?_⟩
          · have := V.int.inj z
            omega
          · show V.int (cell ns 2 % 2) = V.int 0
            rw [er, z]
        · refine last _ ?_
          have c : decide (Ris xs) = false := by
            cases e : decide (Ris xs) with
            | true => exact absurd e c
            | false => rfl
          rw [c, Bool.false_and]

end

theorem all_mk {l : PySem.W.OpenLaw} {w : World} {K : PySem.W.Frag} {h : Heap} {mg : Str → Option Value} {fa : Addr} (X : K.In h) (G : h.Ns mainGlobals mg) (hfa : mg "law" = some (.ref fa))
    {f0 : Addr} {od0 an0 : Option Addr} {sl0 : Array (Option Value)} {oc0 kV0 dc0 pm0 cd0 ct0 : Value}
    {f1 : Addr} {od1 an1 : Option Addr} {sl1 : Array (Option Value)} {oc1 kV1 dc1 pm1 cd1 ct1 : Value}
    {f2 : Addr} {od2 an2 : Option Addr} {sl2 : Array (Option Value)} {oc2 kV2 dc2 pm2 cd2 ct2 : Value}
    {f3 : Addr} {od3 an3 : Option Addr} {sl3 : Array (Option Value)} {oc3 kV3 dc3 pm3 cd3 ct3 : Value}
    {f4 : Addr} {od4 an4 : Option Addr} {sl4 : Array (Option Value)} {oc4 kV4 dc4 pm4 cd4 ct4 : Value}
    {f5 : Addr} {od5 an5 : Option Addr} {sl5 : Array (Option Value)} {oc5 kV5 dc5 pm5 cd5 ct5 : Value}
    {f6 : Addr} {od6 an6 : Option Addr} {sl6 : Array (Option Value)} {oc6 kV6 dc6 pm6 cd6 ct6 : Value}
    {f7 : Addr} {od7 an7 : Option Addr} {sl7 : Array (Option Value)} {oc7 kV7 dc7 pm7 cd7 ct7 : Value}
    {f8 : Addr} {od8 an8 : Option Addr} {sl8 : Array (Option Value)} {oc8 kV8 dc8 pm8 cd8 ct8 : Value}
    {f9 : Addr} {od9 an9 : Option Addr} {sl9 : Array (Option Value)} {oc9 kV9 dc9 pm9 cd9 ct9 : Value}
    {f10 : Addr} {od10 an10 : Option Addr} {sl10 : Array (Option Value)} {oc10 kV10 dc10 pm10 cd10 ct10 : Value}
    {f11 : Addr} {od11 an11 : Option Addr} {sl11 : Array (Option Value)} {oc11 kV11 dc11 pm11 cd11 ct11 : Value}
    {f12 : Addr} {od12 an12 : Option Addr} {sl12 : Array (Option Value)} {oc12 kV12 dc12 pm12 cd12 ct12 : Value}
    {f13 : Addr} {od13 an13 : Option Addr} {sl13 : Array (Option Value)} {oc13 kV13 dc13 pm13 cd13 ct13 : Value}
    {CShareError : Addr}
    {CNoFraction : Addr}
    (a0 : PySem.W.nsIn K mainGlobals "see" = some (some (.ref f0)))
    (l0 : K.lookup f0 = some ⟨oc0, od0, .func (PySem.W.fnOf "see" "see" (defArgs s_see) (defBody s_see) (defScope s_see) .none kV0 dc0 pm0 an0 cd0 ct0), sl0⟩)
    (c0 : PySem.W.codeIn K cd0 "see" = true)
    (k0 : PySem.W.keepIn K (.ref f0) = true)
    (a1 : PySem.W.nsIn K mainGlobals "common" = some (some (.ref f1)))
    (l1 : K.lookup f1 = some ⟨oc1, od1, .func (PySem.W.fnOf "common" "common" (defArgs s_common) (defBody s_common) (defScope s_common) .none kV1 dc1 pm1 an1 cd1 ct1), sl1⟩)
    (c1 : PySem.W.codeIn K cd1 "common" = true)
    (k1 : PySem.W.keepIn K (.ref f1) = true)
    (a2 : PySem.W.nsIn K mainGlobals "lowest" = some (some (.ref f2)))
    (l2 : K.lookup f2 = some ⟨oc2, od2, .func (PySem.W.fnOf "lowest" "lowest" (defArgs s_lowest) (defBody s_lowest) (defScope s_lowest) .none kV2 dc2 pm2 an2 cd2 ct2), sl2⟩)
    (c2 : PySem.W.codeIn K cd2 "lowest" = true)
    (k2 : PySem.W.keepIn K (.ref f2) = true)
    (a3 : PySem.W.nsIn K mainGlobals "added" = some (some (.ref f3)))
    (l3 : K.lookup f3 = some ⟨oc3, od3, .func (PySem.W.fnOf "added" "added" (defArgs s_added) (defBody s_added) (defScope s_added) .none kV3 dc3 pm3 an3 cd3 ct3), sl3⟩)
    (c3 : PySem.W.codeIn K cd3 "added" = true)
    (k3 : PySem.W.keepIn K (.ref f3) = true)
    (a4 : PySem.W.nsIn K mainGlobals "sum_of" = some (some (.ref f4)))
    (l4 : K.lookup f4 = some ⟨oc4, od4, .func (PySem.W.fnOf "sum_of" "sum_of" (defArgs s_sum_of) (defBody s_sum_of) (defScope s_sum_of) .none kV4 dc4 pm4 an4 cd4 ct4), sl4⟩)
    (c4 : PySem.W.codeIn K cd4 "sum_of" = true)
    (k4 : PySem.W.keepIn K (.ref f4) = true)
    (a5 : PySem.W.nsIn K mainGlobals "is_way" = some (some (.ref f5)))
    (l5 : K.lookup f5 = some ⟨oc5, od5, .func (PySem.W.fnOf "is_way" "is_way" (defArgs s_is_way) (defBody s_is_way) (defScope s_is_way) .none kV5 dc5 pm5 an5 cd5 ct5), sl5⟩)
    (c5 : PySem.W.codeIn K cd5 "is_way" = true)
    (k5 : PySem.W.keepIn K (.ref f5) = true)
    (a6 : PySem.W.nsIn K mainGlobals "_law_cell_at" = some (some (.ref f6)))
    (l6 : K.lookup f6 = some ⟨oc6, od6, .func (PySem.W.fnOf "_law_cell_at" "_law_cell_at" (defArgs s_law_cell_at) (defBody s_law_cell_at) (defScope s_law_cell_at) .none kV6 dc6 pm6 an6 cd6 ct6), sl6⟩)
    (c6 : PySem.W.codeIn K cd6 "_law_cell_at" = true)
    (k6 : PySem.W.keepIn K (.ref f6) = true)
    (a7 : PySem.W.nsIn K mainGlobals "_law_whole" = some (some (.ref f7)))
    (l7 : K.lookup f7 = some ⟨oc7, od7, .func (PySem.W.fnOf "_law_whole" "_law_whole" (defArgs s_law_whole) (defBody s_law_whole) (defScope s_law_whole) .none kV7 dc7 pm7 an7 cd7 ct7), sl7⟩)
    (c7 : PySem.W.codeIn K cd7 "_law_whole" = true)
    (k7 : PySem.W.keepIn K (.ref f7) = true)
    (a8 : PySem.W.nsIn K mainGlobals "_law_common" = some (some (.ref f8)))
    (l8 : K.lookup f8 = some ⟨oc8, od8, .func (PySem.W.fnOf "_law_common" "_law_common" (defArgs s_law_common) (defBody s_law_common) (defScope s_law_common) .none kV8 dc8 pm8 an8 cd8 ct8), sl8⟩)
    (c8 : PySem.W.codeIn K cd8 "_law_common" = true)
    (k8 : PySem.W.keepIn K (.ref f8) = true)
    (a9 : PySem.W.nsIn K mainGlobals "_law_lowest" = some (some (.ref f9)))
    (l9 : K.lookup f9 = some ⟨oc9, od9, .func (PySem.W.fnOf "_law_lowest" "_law_lowest" (defArgs s_law_lowest) (defBody s_law_lowest) (defScope s_law_lowest) .none kV9 dc9 pm9 an9 cd9 ct9), sl9⟩)
    (c9 : PySem.W.codeIn K cd9 "_law_lowest" = true)
    (k9 : PySem.W.keepIn K (.ref f9) = true)
    (a10 : PySem.W.nsIn K mainGlobals "_law_sum" = some (some (.ref f10)))
    (l10 : K.lookup f10 = some ⟨oc10, od10, .func (PySem.W.fnOf "_law_sum" "_law_sum" (defArgs s_law_sum) (defBody s_law_sum) (defScope s_law_sum) .none kV10 dc10 pm10 an10 cd10 ct10), sl10⟩)
    (c10 : PySem.W.codeIn K cd10 "_law_sum" = true)
    (k10 : PySem.W.keepIn K (.ref f10) = true)
    (a11 : PySem.W.nsIn K mainGlobals "_law_fraction" = some (some (.ref f11)))
    (l11 : K.lookup f11 = some ⟨oc11, od11, .func (PySem.W.fnOf "_law_fraction" "_law_fraction" (defArgs s_law_fraction) (defBody s_law_fraction) (defScope s_law_fraction) .none kV11 dc11 pm11 an11 cd11 ct11), sl11⟩)
    (c11 : PySem.W.codeIn K cd11 "_law_fraction" = true)
    (k11 : PySem.W.keepIn K (.ref f11) = true)
    (a12 : PySem.W.nsIn K mainGlobals "_law_share" = some (some (.ref f12)))
    (l12 : K.lookup f12 = some ⟨oc12, od12, .func (PySem.W.fnOf "_law_share" "_law_share" (defArgs s_law_share) (defBody s_law_share) (defScope s_law_share) .none kV12 dc12 pm12 an12 cd12 ct12), sl12⟩)
    (c12 : PySem.W.codeIn K cd12 "_law_share" = true)
    (k12 : PySem.W.keepIn K (.ref f12) = true)
    (a13 : PySem.W.nsIn K mainGlobals "law" = some (some (.ref f13)))
    (l13 : K.lookup f13 = some ⟨oc13, od13, .func (PySem.W.fnOf "law" "law" (defArgs s_law) (defBody s_law) (defScope s_law) .none kV13 dc13 pm13 an13 cd13 ct13), sl13⟩)
    (c13 : PySem.W.codeIn K cd13 "law" = true)
    (k13 : PySem.W.keepIn K (.ref f13) = true)
    (z0 : PySem.W.nsIn K mainGlobals "len" = some none)
    (z1 : PySem.W.nsIn K mainGlobals "range" = some none)
    (z2 : PySem.W.nsIn K mainGlobals "min" = some none)
    (z3 : PySem.W.nsIn K mainGlobals "max" = some none)
    (z4 : PySem.W.nsIn K mainGlobals "sum" = some none)
    (z5 : PySem.W.nsIn K mainGlobals "sorted" = some none)
    (z6 : PySem.W.nsIn K mainGlobals "set" = some none)
    (z7 : PySem.W.nsIn K mainGlobals "dict" = some none)
    (z8 : PySem.W.nsIn K mainGlobals "list" = some none)
    (z9 : PySem.W.nsIn K mainGlobals "str" = some none)
    (z10 : PySem.W.nsIn K mainGlobals "int" = some none)
    (z11 : PySem.W.nsIn K mainGlobals "isinstance" = some none)
    (z12 : PySem.W.nsIn K mainGlobals "bool" = some none)
    (z13 : PySem.W.nsIn K mainGlobals "tuple" = some none)
    (z14 : PySem.W.nsIn K mainGlobals "ValueError" = some none)
    (nShareError : PySem.W.nsIn K mainGlobals "ShareError" = some (some (.ref CShareError)))
    (e0ShareError : PySem.W.excIn K CShareError veT "ValueError.__new__" = true)
    (e1ShareError : PySem.W.keepIn K (.ref CShareError) = true)
    (e2ShareError : PySem.W.subIn K (.ref CShareError) (.type "BaseException") = some true)
    (e3ShareError : PySem.W.typeIn K (.ref CShareError) = some (.type "type"))
    (nNoFraction : PySem.W.nsIn K mainGlobals "NoFraction" = some (some (.ref CNoFraction)))
    (e0NoFraction : PySem.W.excIn K CNoFraction veT "ValueError.__new__" = true)
    (e1NoFraction : PySem.W.keepIn K (.ref CNoFraction) = true)
    (e2NoFraction : PySem.W.subIn K (.ref CNoFraction) (.type "BaseException") = some true)
    (e3NoFraction : PySem.W.typeIn K (.ref CNoFraction) = some (.type "type"))
    : ∃ fd : FuncData, (∀ (s : Shared) (v : Value), BindsTo s fd ⟨[v], []⟩ [("script", v)]) ∧ ∀ base : Heap, K.In base → base.Ns mainGlobals mg → FnOk l.prog w K mg base CX0 6 fa fd ["script"] (sp_law K) := by
  have ef := hfa.symm.trans (PySem.W.mg_of X G a13)
  cases ef
  have B : Bi mg := ⟨PySem.W.mg_none_of X G z0, PySem.W.mg_none_of X G z1, PySem.W.mg_none_of X G z2, PySem.W.mg_none_of X G z3, PySem.W.mg_none_of X G z4, PySem.W.mg_none_of X G z5, PySem.W.mg_none_of X G z6, PySem.W.mg_none_of X G z7, PySem.W.mg_none_of X G z8, PySem.W.mg_none_of X G z9, PySem.W.mg_none_of X G z10, PySem.W.mg_none_of X G z11, PySem.W.mg_none_of X G z12, PySem.W.mg_none_of X G z13, PySem.W.mg_none_of X G z14⟩
  have Er : ErrOk K mg ⟨CShareError, CNoFraction, 0, 0, 0, 0⟩ := ⟨⟨PySem.W.mg_of X G nShareError, e0ShareError, e1ShareError, e2ShareError, e3ShareError⟩, ⟨PySem.W.mg_of X G nNoFraction, e0NoFraction, e1NoFraction, e2NoFraction, e3NoFraction⟩⟩
  have S_see : Stands K mg "see" s_see := ⟨_, _, fun_mk (st := s_see) l0 c0 k0, PySem.W.mg_of X G a0⟩
  have S_common : Stands K mg "common" s_common := ⟨_, _, fun_mk (st := s_common) l1 c1 k1, PySem.W.mg_of X G a1⟩
  have S_lowest : Stands K mg "lowest" s_lowest := ⟨_, _, fun_mk (st := s_lowest) l2 c2 k2, PySem.W.mg_of X G a2⟩
  have S_added : Stands K mg "added" s_added := ⟨_, _, fun_mk (st := s_added) l3 c3 k3, PySem.W.mg_of X G a3⟩
  have S_sum_of : Stands K mg "sum_of" s_sum_of := ⟨_, _, fun_mk (st := s_sum_of) l4 c4 k4, PySem.W.mg_of X G a4⟩
  have S_is_way : Stands K mg "is_way" s_is_way := ⟨_, _, fun_mk (st := s_is_way) l5 c5 k5, PySem.W.mg_of X G a5⟩
  have S_law_cell_at : Stands K mg "_law_cell_at" s_law_cell_at := ⟨_, _, fun_mk (st := s_law_cell_at) l6 c6 k6, PySem.W.mg_of X G a6⟩
  have S_law_whole : Stands K mg "_law_whole" s_law_whole := ⟨_, _, fun_mk (st := s_law_whole) l7 c7 k7, PySem.W.mg_of X G a7⟩
  have S_law_common : Stands K mg "_law_common" s_law_common := ⟨_, _, fun_mk (st := s_law_common) l8 c8 k8, PySem.W.mg_of X G a8⟩
  have S_law_lowest : Stands K mg "_law_lowest" s_law_lowest := ⟨_, _, fun_mk (st := s_law_lowest) l9 c9 k9, PySem.W.mg_of X G a9⟩
  have S_law_sum : Stands K mg "_law_sum" s_law_sum := ⟨_, _, fun_mk (st := s_law_sum) l10 c10 k10, PySem.W.mg_of X G a10⟩
  have S_law_fraction : Stands K mg "_law_fraction" s_law_fraction := ⟨_, _, fun_mk (st := s_law_fraction) l11 c11 k11, PySem.W.mg_of X G a11⟩
  have S_law_share : Stands K mg "_law_share" s_law_share := ⟨_, _, fun_mk (st := s_law_share) l12 c12 k12, PySem.W.mg_of X G a12⟩
  refine ⟨PySem.W.fnOf "law" "law" (defArgs s_law) (defBody s_law) (defScope s_law) .none kV13 dc13 pm13 an13 cd13 ct13, fun s v => .of_eq rfl, fun base _ _ => ?_⟩
  have O_see := ok_see (P := l.prog) (w := w) (base := base) S_see B Er 
  have O_common := ok_common (P := l.prog) (w := w) (base := base) S_common B Er 
  have O_lowest := ok_lowest (P := l.prog) (w := w) (base := base) S_lowest B Er O_see O_common
  have O_added := ok_added (P := l.prog) (w := w) (base := base) S_added B Er O_see O_lowest
  have O_sum_of := ok_sum_of (P := l.prog) (w := w) (base := base) S_sum_of B Er O_added
  have O_is_way := ok_is_way (P := l.prog) (w := w) (base := base) S_is_way B Er O_see O_sum_of O_lowest
  have O_law_cell_at := ok_law_cell_at (P := l.prog) (w := w) (base := base) S_law_cell_at B Er 
  have O_law_whole := ok_law_whole (P := l.prog) (w := w) (base := base) S_law_whole B Er 
  have O_law_common := ok_law_common (P := l.prog) (w := w) (base := base) S_law_common B Er 
  have O_law_lowest := ok_law_lowest (P := l.prog) (w := w) (base := base) S_law_lowest B Er O_law_common
  have O_law_sum := ok_law_sum (P := l.prog) (w := w) (base := base) S_law_sum B Er O_law_lowest
  have O_law_fraction := ok_law_fraction (P := l.prog) (w := w) (base := base) S_law_fraction B Er O_law_whole
  have O_law_share := ok_law_share (P := l.prog) (w := w) (base := base) S_law_share B Er 
  exact ok_law (P := l.prog) (w := w) (base := base) (fun_mk (st := s_law) l13 c13 k13) B Er O_law_sum O_is_way O_law_share O_law_cell_at O_law_fraction O_sum_of
end U
open PySem PySem.W PyProof.Rows
set_option maxHeartbeats 0 in
theorem PySem.Challenge.cw_unitshares_k02_sums_holds : PySem.Challenge.rw_unitshares_k02_sums.Holds := by
  w_on; o_law; k_head; (case hw => w_witness2)
  k_fill
  refine L2.walk_of (l := PySem.Challenge.rw_unitshares_k02_sums) (n := 63) (k := 6) (x := "script") (CX := fun _ => L2.CX0) (sp := fun w => U.sp_law _) rfl (by decide) rfl ⟨rfl, by decide, by decide⟩ (fun w h Y => PySem.W.kIn_of Y) ?F (fun _ _ a ns hl _ hS => ⟨a, ns, rfl, hS, hl, fun _ => rfl⟩) (fun _ _ _ _ _ h => h)
  case F =>
    intro w mg fa h KX G hmg
    refine' U.all_mk KX G hmg ?a0 ?l0 ?c0 ?k0 ?a1 ?l1 ?c1 ?k1 ?a2 ?l2 ?c2 ?k2 ?a3 ?l3 ?c3 ?k3 ?a4 ?l4 ?c4 ?k4 ?a5 ?l5 ?c5 ?k5 ?a6 ?l6 ?c6 ?k6 ?a7 ?l7 ?c7 ?k7 ?a8 ?l8 ?c8 ?k8 ?a9 ?l9 ?c9 ?k9 ?a10 ?l10 ?c10 ?k10 ?a11 ?l11 ?c11 ?k11 ?a12 ?l12 ?c12 ?k12 ?a13 ?l13 ?c13 ?k13 ?z0 ?z1 ?z2 ?z3 ?z4 ?z5 ?z6 ?z7 ?z8 ?z9 ?z10 ?z11 ?z12 ?z13 ?z14 ?nShareError ?e0ShareError ?e1ShareError ?e2ShareError ?e3ShareError ?nNoFraction ?e0NoFraction ?e1NoFraction ?e2NoFraction ?e3NoFraction
    (case a0 => k_is)
    (case l0 => k_is)
    (case c0 => k_is)
    (case k0 => k_is)
    (case a1 => k_is)
    (case l1 => k_is)
    (case c1 => k_is)
    (case k1 => k_is)
    (case a2 => k_is)
    (case l2 => k_is)
    (case c2 => k_is)
    (case k2 => k_is)
    (case a3 => k_is)
    (case l3 => k_is)
    (case c3 => k_is)
    (case k3 => k_is)
    (case a4 => k_is)
    (case l4 => k_is)
    (case c4 => k_is)
    (case k4 => k_is)
    (case a5 => k_is)
    (case l5 => k_is)
    (case c5 => k_is)
    (case k5 => k_is)
    (case a6 => k_is)
    (case l6 => k_is)
    (case c6 => k_is)
    (case k6 => k_is)
    (case a7 => k_is)
    (case l7 => k_is)
    (case c7 => k_is)
    (case k7 => k_is)
    (case a8 => k_is)
    (case l8 => k_is)
    (case c8 => k_is)
    (case k8 => k_is)
    (case a9 => k_is)
    (case l9 => k_is)
    (case c9 => k_is)
    (case k9 => k_is)
    (case a10 => k_is)
    (case l10 => k_is)
    (case c10 => k_is)
    (case k10 => k_is)
    (case a11 => k_is)
    (case l11 => k_is)
    (case c11 => k_is)
    (case k11 => k_is)
    (case a12 => k_is)
    (case l12 => k_is)
    (case c12 => k_is)
    (case k12 => k_is)
    (case a13 => k_is)
    (case l13 => k_is)
    (case c13 => k_is)
    (case k13 => k_is)
    (case z0 => k_is)
    (case z1 => k_is)
    (case z2 => k_is)
    (case z3 => k_is)
    (case z4 => k_is)
    (case z5 => k_is)
    (case z6 => k_is)
    (case z7 => k_is)
    (case z8 => k_is)
    (case z9 => k_is)
    (case z10 => k_is)
    (case z11 => k_is)
    (case z12 => k_is)
    (case z13 => k_is)
    (case z14 => k_is)
    (case nShareError => k_is)
    (case e0ShareError => k_exc)
    (case e1ShareError => k_is)
    (case e2ShareError => k_is)
    (case e3ShareError => k_is)
    (case nNoFraction => k_is)
    (case e0NoFraction => k_exc)
    (case e1NoFraction => k_is)
    (case e2NoFraction => k_is)
    (case e3NoFraction => k_is)
