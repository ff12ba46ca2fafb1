import PyProof.Rows.All
import Wide.All
import OpenK.AllK
import Wide.FinOn
import HandS.ForMost
import HandS.ForExc
import HandS.More
import HandS.Wide
import HandS.WideBits
import HandS.IsInst
import HandS.SortInts
import HandS.SetFor
import HandS.Strs
import HandS.Zip

import PySem.Challenge.RW_unitshares_k05_whole_rising_factors
set_option Elab.async false
set_option linter.all false
set_option maxRecDepth 100000
set_option maxHeartbeats 4000000
namespace U
open PySem PySem.Spec PyProof.Rows L2
def topS (i : Nat) : Stmt := PySem.Challenge.pw_unitshares_k05_whole_rising_factors.main.body.getD i (.Pass ⟨0, 0, 0, 0⟩)
/-! ### how a def, a class, a built-in stand -/
/-- the module's name x holds the def st -/
def Stands (K : PySem.W.Frag) (mg : Str → Option Value) (x : Str) (st : Stmt) : Prop := ∃ f fd, Fun K x x st f fd ∧ mg x = some (.ref f)
/-- the def x keeps the promise sp -/
def Keeps (P : Program) (w : World) (K : PySem.W.Frag) (mg : Str → Option Value) (base : Heap) (k : Nat) (x : Str) (ps : List Str) (sp : Sp) : Prop :=
  ∃ f fd, FnOk P w K mg base (L2.CX P w) k f fd ps sp ∧ Binds K fd ps [] ∧ mg x = some (.ref f) ∧ PySem.W.keepIn K (.ref f) = true
/-- nothing leaves, so whatever leaves is as one likes -/
theorem toX {P : Program} {w : World} {K : PySem.W.Frag} {mg : Str → Option Value} {base : Heap} {k : Nat} {f : Addr} {fd : FuncData} {ps : List Str} {sp : Sp} (F : FnOk P w K mg base CX0 k f fd ps sp) : FnOk P w K mg base (L2.CX P w) k f fd ps sp :=
  ⟨F.len, fun A outer s H args us vs Q E hr e0 hb r h => codeAny_mono (F.run A outer s H args us vs Q E hr e0 hb r h) fun r s' q => by
    cases r with
    | error e => exact False.elim q
    | ok fl => cases fl <;> exact q⟩
structure Bi (mg : Str → Option Value) : Prop where
  len : mg "len" = none
  range : mg "range" = none
  min : mg "min" = none
  max : mg "max" = none
  sum : mg "sum" = none
  sorted : mg "sorted" = none
  set : mg "set" = none
  dict : mg "dict" = none
  list : mg "list" = none
  str : mg "str" = none
  int : mg "int" = none
  isinstance : mg "isinstance" = none
  bool : mg "bool" = none
  tuple : mg "tuple" = none
  ValueError : mg "ValueError" = none
abbrev veT : List Value := [.type "ValueError", .type "Exception", .type "BaseException", .type "object"]
/-! ### heaps -/
theorem same_new {H : Hp} {p : Addr} {o : HO} (h : H p = none) : Same H (upd H p o) := fun b x e => by
  rw [upd_ne (ne_of_none e h)]
  exact e
/-- an object that H does not know is written -/
theorem same_mut {H H' : Hp} {p : Addr} {o : HO} (s : Same H H') (h : H p = none) : Same H (upd H' p o) := fun b x e => by
  rw [upd_ne (ne_of_none e h)]
  exact s b x e
theorem same_tup {K : PySem.W.Frag} {H H' : Hp} {a : Addr} {xs : List V} (e : Same H H') (h : SqT K H a xs) : SqT K H' a xs := by
  rcases h with (h | ⟨o, h⟩) | h
  · exact .inl (.inl (e _ _ h))
  · exact .inl (.inr ⟨o, e _ _ h⟩)
  · exact .inr h
theorem ty_list {K : PySem.W.Frag} {H : Hp} {a : Addr} {xs : List V} (h : SqL K H a xs) : TyX K H (.ref a) (.type "list") := by
  rcases h with (h | ⟨o, h⟩) | ⟨o, _, _, h, c, _⟩
  · exact .base (.lst h)
  · exact .base (.frz h)
  · exact .kList h c
theorem ty_tup {K : PySem.W.Frag} {H : Hp} {a : Addr} {xs : List V} (h : SqT K H a xs) : TyX K H (.ref a) (.type "tuple") := by
  rcases h with (h | ⟨o, h⟩) | ⟨o, _, _, h, c, _⟩
  · exact .base (.tup h)
  · exact .fTuple h
  · exact .kTuple h c
theorem szl {n : Nat} (h : n ≤ 16000000) : n ≤ sizeLine := Nat.le_trans h (by decide)
theorem szl_lt {n : Nat} (h : n < 16000000) : n < sizeLine := Nat.lt_of_lt_of_le h (by decide)
theorem get_map {α β : Type} {f : α → β} {l : List α} {i : Nat} {x : α} (h : l[i]? = some x) : (l.map f)[i]? = some (f x) := by
  rw [List.getElem?_map, h] <;> rfl
theorem of_get_map {α β : Type} {f : α → β} {l : List α} {i : Nat} {y : β} (h : (l.map f)[i]? = some y) : ∃ x, l[i]? = some x ∧ y = f x := by
  rw [List.getElem?_map] at h
  cases e : l[i]? with
  | none => rw [e] at h; cases h
  | some x => rw [e] at h; exact ⟨x, rfl, (Option.some.inj h).symm⟩
theorem take_snoc {α : Type} {l : List α} {i : Nat} {x : α} (h : l[i]? = some x) : l.take (i + 1) = l.take i ++ [x] := by
  rw [List.take_add_one, h] <;> rfl
theorem lt_of_get {α : Type} {l : List α} {i : Nat} {x : α} (h : l[i]? = some x) : i < l.length := (List.getElem?_eq_some_iff.mp h).1
/-- 1, 2, .., n -/
def upto (n : Nat) : List Int := (List.range n).map fun (i : Nat) => 1 + (i : Int)
theorem upto_succ (n : Nat) : upto (n + 1) = upto n ++ [1 + (n : Int)] := by
  unfold upto
  rw [List.range_succ, List.map_append] <;> rfl
theorem upto_length (n : Nat) : (upto n).length = n := by
  unfold upto
  rw [List.length_map, List.length_range]
theorem mem_upto {n : Nat} {x : Int} : x ∈ upto n ↔ 1 ≤ x ∧ x ≤ n := by
  unfold upto
  rw [List.mem_map]
  constructor
  · rintro ⟨i, hi, rfl⟩
    have := List.mem_range.mp hi
    omega
  · rintro ⟨h1, h2⟩
    exact ⟨(x - 1).toNat, List.mem_range.mpr (by omega), by omega⟩
theorem cw_mul {i j : Int} {a b : Nat} (ha : i.natAbs < 2 ^ a) (hb : j.natAbs < 2 ^ b) (h0 : 0 < a := by decide) (h1 : 0 < b := by decide) (h : a + b ≤ 1000000 := by decide) : CMulW i j := wide_mul ha hb h0 h1 h
/-- // by a positive divisor, where it is told that C divides by itself -/
theorem op_fdivP {X : Cx} : OpR X (binaryOp .FloorDiv) (rI CDivP fun i j => .int (i / j)) := opI fun i j _ _ _ _ _ hc q => by
  have h1 : (0 : Int) < j := hc.1
  exact floordiv_int (by omega) (by rw [Int.fdiv_eq_ediv_of_nonneg i (by omega)]; exact q) (.inl hc.2)
theorem cdp_of {i j : Int} (h : CDivW i j) : CDivP i j := ⟨h.1, PyProof.noPylong_of_log2 h.2⟩
theorem cw_div {i j : Int} {b : Nat} (h : 0 < j) (hb : j.natAbs < 2 ^ b) (h0 : 0 < b := by decide) (h9 : b ≤ 9000 := by decide) : CDivP i j := cdp_of (wide_div h hb h0 h9)
theorem fil_yes {α : Type} {q : α → Prop} [DecidablePred q] {l : List α} {x : α} (h : q x) : (l ++ [x]).filter (fun k => decide (q k)) = l.filter (fun k => decide (q k)) ++ [x] := by
  rw [List.filter_append]
  congr 1
  simp [h]
theorem fil_no {α : Type} {q : α → Prop} [DecidablePred q] {l : List α} {x : α} (h : ¬ q x) : (l ++ [x]).filter (fun k => decide (q k)) = l.filter (fun k => decide (q k)) := by
  rw [List.filter_append]
  simp [h]
/-- what holds behind a statement, its ways joined -/
theorem cut {t R : TS} {D : Ends} {σ : L2.St} {H : Hp} (Pm : L2.St → Hp → Prop) (h1 : ∀ (R : TS) (D : Ends), (∀ σ' H', Pm σ' H' → R D σ' H') → tSeq t R D σ H) (h2 : ∀ σ' H', Pm σ' H' → R D σ' H') : tSeq t R D σ H := h1 R D h2

/-! ### sizes, by bits -/
/-- x has at most n bits -/
def Sz (n : Nat) (x : Int) : Prop := x.natAbs < 2 ^ n
theorem Sz.mono {a b : Nat} {x : Int} (h : Sz a x) (l : a ≤ b := by decide) : Sz b x := Nat.lt_of_lt_of_le h (Nat.pow_le_pow_right (by decide) l)
theorem Sz.le {a : Nat} {x y : Int} (h : Sz a y) (h0 : 0 ≤ x) (l : x ≤ y) : Sz a x := Nat.lt_of_le_of_lt (by omega : x.natAbs ≤ y.natAbs) h
theorem Sz.mul {a b : Nat} {x y : Int} (h : Sz a x) (g : Sz b y) : Sz (a + b) (x * y) := by
  unfold Sz
  rw [Int.natAbs_mul, Nat.pow_add]
  exact Nat.mul_lt_mul'' h g
theorem Sz.add {a : Nat} {x y : Int} (h : Sz a x) (g : Sz a y) : Sz (a + 1) (x + y) := by
  have h : x.natAbs < 2 ^ a := h
  have g : y.natAbs < 2 ^ a := g
  show (x + y).natAbs < 2 ^ (a + 1)
  rw [Nat.pow_succ]
  omega
theorem Sz.sub {a : Nat} {x y : Int} (h : Sz a x) (g : Sz a y) : Sz (a + 1) (x - y) := by
  have h : x.natAbs < 2 ^ a := h
  have g : y.natAbs < 2 ^ a := g
  show (x - y).natAbs < 2 ^ (a + 1)
  rw [Nat.pow_succ]
  omega
theorem Sz.cm {a b : Nat} {i j : Int} (ha : Sz a i) (hb : Sz b j) (h0 : 0 < a := by decide) (h1 : 0 < b := by decide) (h : a + b ≤ 1000000 := by decide) : CMulW i j := wide_mul ha hb h0 h1 h
theorem Sz.cd {b : Nat} {i j : Int} (hb : Sz b j) (h : 0 < j) (h0 : 0 < b := by decide) (h9 : b ≤ 9000 := by decide) : CDivP i j := cw_div h hb h0 h9
theorem Sz.lit {a : Nat} {x : Int} (h : x.natAbs < 2 ^ a := by decide) : Sz a x := h
theorem Sz.one {a : Nat} (h : 0 < a := by decide) : Sz a 1 := Nat.one_lt_two_pow (by omega)
theorem Sz.zero {a : Nat} : Sz a 0 := Nat.pow_pos (by decide)
/-- a dividend not much greater than its divisor -/
theorem cdp_near {i j : Int} {k : Nat} (hj : 0 < j) (h : i.natAbs ≤ 2 ^ k * j.natAbs) (hk : k ≤ 3000 := by decide) : CDivP i j := by
  refine divp_ok hj ?_
  have b1 : j.natAbs < 2 ^ (j.natAbs.log2 + 1) := Nat.lt_log2_self
  have b2 : i.natAbs < 2 ^ (k + (j.natAbs.log2 + 1)) := by
    rw [Nat.pow_add]
    exact Nat.lt_of_le_of_lt h (Nat.mul_lt_mul_of_pos_left b1 (Nat.pow_pos (by decide)))
  have b3 := PyProof.Rows.intBits_le b2
  have b4 : Builtin.Int.intBits j = j.natAbs.log2 + 1 := by
    unfold Builtin.Int.intBits
    rw [if_neg (by simpa using (show j ≠ 0 by omega))]
  omega

--: math = sz
/-! ### lowest terms -/
def gc (a b : Int) : Int := ((Int.gcd a b : Nat) : Int)
def low (t b : Int) : Int × Int := (t / gc t b, b / gc t b)
theorem gc_nn (a b : Int) : 0 ≤ gc a b := Int.natCast_nonneg _
theorem gc_pos {t b : Int} (h : 1 ≤ b) : 0 < gc t b := by
  have : Int.gcd t b ≠ 0 := fun z => by
    have := (Int.gcd_eq_zero_iff.mp z).2
    omega
  unfold gc
  omega
theorem gc_dl (t b : Int) : gc t b ∣ t := Int.gcd_dvd_left ..
theorem gc_dr (t b : Int) : gc t b ∣ b := Int.gcd_dvd_right ..
theorem gc_le {t b : Int} (h : 1 ≤ b) : gc t b ≤ b := Int.le_of_dvd (by omega) (gc_dr t b)
theorem low_t (t b : Int) : (low t b).1 * gc t b = t := Int.ediv_mul_cancel (gc_dl t b)
theorem low_b (t b : Int) : (low t b).2 * gc t b = b := Int.ediv_mul_cancel (gc_dr t b)
theorem low_bpos {t b : Int} (h : 1 ≤ b) : 1 ≤ (low t b).2 := by
  have g := gc_pos (t := t) h
  have e := low_b t b
  by_cases z : 1 ≤ (low t b).2
  · exact z
  · have : (low t b).2 * gc t b ≤ 0 := Int.mul_nonpos_of_nonpos_of_nonneg (by omega) (by omega)
    omega
theorem low_tnn {t b : Int} (h : 1 ≤ b) (h0 : 0 ≤ t) : 0 ≤ (low t b).1 := Int.ediv_nonneg h0 (gc_nn t b)
theorem low_ble {t b : Int} (h : 1 ≤ b) : (low t b).2 ≤ b := Int.ediv_le_self _ (by omega)
theorem low_tle {t b : Int} (h0 : 0 ≤ t) : (low t b).1 ≤ t := Int.ediv_le_self _ h0
theorem low_cross (t b : Int) : t * (low t b).2 = (low t b).1 * b := by
  have h1 := low_t t b
  have h2 := low_b t b
  calc t * (low t b).2 = (low t b).1 * gc t b * (low t b).2 := by rw [h1]
    _ = (low t b).1 * ((low t b).2 * gc t b) := by rw [Int.mul_assoc, Int.mul_comm (gc t b)]
    _ = (low t b).1 * b := by rw [h2]
theorem low_scale {t b k : Int} (h : 0 < k) : low (t * k) (b * k) = low t b := by
  unfold low gc
  rw [Int.gcd_mul_right, Int.natCast_mul, Int.natAbs_of_nonneg (by omega), Int.mul_ediv_mul_of_pos_left _ _ h, Int.mul_ediv_mul_of_pos_left _ _ h]
theorem low_uniq {t b t' b' : Int} (h : 0 < b) (h' : 0 < b') (e : t * b' = t' * b) : low t b = low t' b' := by
  rw [← low_scale (t := t) (b := b) h', ← low_scale (t := t') (b := b') h, e, Int.mul_comm b b']
theorem low_low {t b : Int} (h : 1 ≤ b) : low (low t b).1 (low t b).2 = low t b :=
  low_uniq (by have := low_bpos (t := t) h; omega) (by omega) (low_cross t b).symm
theorem low_of_eq {t b t' b' : Int} (h : 1 ≤ b) (e : low t b = low t' b') : t * b' = t' * b := by
  have c1 := low_cross t b
  have c2 := low_cross t' b'
  rw [← e] at c2
  have hb := low_bpos (t := t) h
  refine Int.eq_of_mul_eq_mul_right (a := (low t b).2) (by omega) ?_
  calc t * b' * (low t b).2 = t * (low t b).2 * b' := by rw [Int.mul_assoc, Int.mul_comm b', Int.mul_assoc]
    _ = (low t b).1 * b' * b := by rw [c1, Int.mul_assoc, Int.mul_comm b, ← Int.mul_assoc]
    _ = t' * b * (low t b).2 := by rw [← c2, Int.mul_assoc, Int.mul_comm _ b, ← Int.mul_assoc]
theorem gc_step {x y : Int} : gc y (x % y) = gc x y := by
  unfold gc
  rw [Int.gcd_comm x y]
  have h := Int.gcd_add_mul_left_right y (x % y) (x / y)
  rw [Int.emod_add_mul_ediv] at h
  rw [h]
theorem gc_zero {x : Int} (h : 0 ≤ x) : gc x 0 = x := by
  unfold gc
  rw [Int.gcd_zero_right]
  omega
/-- what _law_lowest's two divisions ask -/
theorem low_divs {t b : Int} (hb : 1 ≤ b) (z : Sz 9000 b) : CDivP t (gc t b) ∧ CDivP b (gc t b) := by
  have g := gc_pos (t := t) hb
  have zg : Sz 9000 (gc t b) := z.le (by omega) (gc_le hb)
  exact ⟨zg.cd g, zg.cd g⟩
theorem low_near {t b : Int} (hb : 1 ≤ b) (h1 : Sz 3000 (low t b).1) (h2 : Sz 3000 (low t b).2) : CDivP t (gc t b) ∧ CDivP b (gc t b) := by
  have g := gc_pos (t := t) hb
  have e1 := congrArg Int.natAbs (low_t t b)
  have e2 := congrArg Int.natAbs (low_b t b)
  rw [Int.natAbs_mul] at e1 e2
  have h1 : (low t b).1.natAbs < 2 ^ 3000 := h1
  have h2 : (low t b).2.natAbs < 2 ^ 3000 := h2
  refine ⟨cdp_near (k := 3000) g ?_, cdp_near (k := 3000) g ?_⟩
  · rw [← e1]
    exact Nat.mul_le_mul_right _ (Nat.le_of_lt h1)
  · rw [← e2]
    exact Nat.mul_le_mul_right _ (Nat.le_of_lt h2)

--: math = low
/-! ### sums of shares -/
def sumS (xs : List Int) : Int × Int := xs.foldl (fun p s => (p.1 * s + p.2, p.2 * s)) (0, 1)
/-- the sum of the shares, in lowest terms -/
def lowS (xs : List Int) : Int × Int := low (sumS xs).1 (sumS xs).2
/-- shares: none below one -/
def Pos (xs : List Int) : Prop := ∀ x ∈ xs, (1 : Int) ≤ x
theorem sumS_snoc (xs : List Int) (s : Int) : sumS (xs ++ [s]) = ((sumS xs).1 * s + (sumS xs).2, (sumS xs).2 * s) := by
  unfold sumS
  rw [List.foldl_append] <;> rfl
theorem sumS_nil : sumS [] = (0, 1) := rfl
theorem low_01 : low 0 1 = (0, 1) := by decide
theorem lowS_nil : lowS [] = (0, 1) := low_01
theorem Pos.snoc {xs : List Int} {s : Int} (h : Pos (xs ++ [s])) : Pos xs ∧ 1 ≤ s :=
  ⟨fun x hx => h x (List.mem_append_left _ hx), h s (List.mem_append_right _ List.mem_cons_self)⟩
theorem snoc_ind {α : Type} (P : List α → Prop) (l : List α) (h0 : P []) (hs : ∀ l x, P l → P (l ++ [x])) : P l := by
  have : ∀ r : List α, P r.reverse := fun r => by
    induction r with
    | nil => exact h0
    | cons x r ih =>
      rw [List.reverse_cons]
      exact hs _ _ ih
  have := this l.reverse
  rwa [List.reverse_reverse] at this
theorem sumS_pos (xs : List Int) : Pos xs → 0 ≤ (sumS xs).1 ∧ 1 ≤ (sumS xs).2 ∧ (sumS xs).1 ≤ xs.length * (sumS xs).2 := by
  refine snoc_ind (fun xs => Pos xs → 0 ≤ (sumS xs).1 ∧ 1 ≤ (sumS xs).2 ∧ (sumS xs).1 ≤ xs.length * (sumS xs).2) xs (fun _ => ⟨by decide, by decide, by decide⟩) (fun l x ih h => ?_)
  obtain ⟨h1, h2⟩ := h.snoc
  obtain ⟨a, b, c⟩ := ih h1
  rw [sumS_snoc, List.length_append]
  have p1 : 0 ≤ (sumS l).1 * x := Int.mul_nonneg a (by omega)
  have p2 : 0 < (sumS l).2 * x := Int.mul_pos (by omega) (by omega)
  refine ⟨by show 0 ≤ (sumS l).1 * x + (sumS l).2; omega, p2, ?_⟩
  show (sumS l).1 * x + (sumS l).2 ≤ ((l.length + 1 : Nat) : Int) * ((sumS l).2 * x)
  have q1 : (sumS l).1 * x ≤ l.length * (sumS l).2 * x := Int.mul_le_mul_of_nonneg_right c (by omega)
  have q2 : (sumS l).2 * 1 ≤ (sumS l).2 * x := Int.mul_le_mul_of_nonneg_left h2 (by omega)
  rw [Int.natCast_add, Int.add_mul, ← Int.mul_assoc]
  omega
theorem pos_take {xs : List Int} (h : Pos xs) (i : Nat) : Pos (xs.take i) := fun x hx => h x (List.mem_of_mem_take hx)
theorem sumS_append_le (ys xs : List Int) : Pos (xs ++ ys) → (sumS xs).2 ≤ (sumS (xs ++ ys)).2 := by
  refine snoc_ind (fun ys => Pos (xs ++ ys) → (sumS xs).2 ≤ (sumS (xs ++ ys)).2) ys (fun _ => ?_) (fun l x ih h => ?_)
  · rw [List.append_nil]
    exact Int.le_refl _
  · rw [← List.append_assoc] at h ⊢
    obtain ⟨h1, h2⟩ := h.snoc
    have a := ih h1
    have b := (sumS_pos _ h1).2.1
    rw [sumS_snoc (xs ++ l)]
    show (sumS xs).2 ≤ (sumS (xs ++ l)).2 * x
    have : (sumS (xs ++ l)).2 * 1 ≤ (sumS (xs ++ l)).2 * x := Int.mul_le_mul_of_nonneg_left h2 (by omega)
    omega
theorem sumS_take_le {xs : List Int} (h : Pos xs) (i : Nat) : (sumS (xs.take i)).2 ≤ (sumS xs).2 := by
  have := sumS_append_le (xs.drop i) (xs.take i)
  rw [List.take_append_drop] at this
  exact this h
/-- sizes within a sum -/
structure SumOk (xs : List Int) : Prop where
  pos : Pos xs
  sz : Sz 4000 (sumS xs).2
  len : xs.length ≤ 1000
theorem SumOk.take {xs : List Int} (h : SumOk xs) (i : Nat) : SumOk (xs.take i) where
  pos := pos_take h.pos i
  sz := h.sz.le (by have := (sumS_pos _ (pos_take h.pos i)).2.1; omega) (sumS_take_le h.pos i)
  len := by
    have := h.len
    rw [List.length_take]
    omega
theorem SumOk.top {xs : List Int} (h : SumOk xs) : Sz 4010 (sumS xs).1 := by
  obtain ⟨a, b, c⟩ := sumS_pos _ h.pos
  have hl : Sz 10 (xs.length : Int) := by
    have := h.len
    show (xs.length : Int).natAbs < 1024
    omega
  exact (hl.mul h.sz).mono.le a c
theorem SumOk.item {xs : List Int} (h : SumOk xs) {i : Nat} {s : Int} (e : xs[i]? = some s) : 1 ≤ s ∧ Sz 4000 s := by
  have hs : 1 ≤ s := h.pos s (List.mem_of_getElem? e)
  have k := (h.take (i + 1)).sz
  rw [List.take_add_one, e] at k
  have k : Sz 4000 (sumS (xs.take i ++ [s])).2 := k
  rw [sumS_snoc] at k
  have b := (sumS_pos _ (pos_take h.pos i)).2.1
  refine ⟨hs, Sz.le k (by omega) ?_⟩
  show s ≤ (sumS (xs.take i)).2 * s
  have : 1 * s ≤ (sumS (xs.take i)).2 * s := Int.mul_le_mul_of_nonneg_right b (by omega)
  omega
theorem low_step {t b s : Int} (hb : 1 ≤ b) (hs : 1 ≤ s) : low ((low t b).1 * s + 1 * (low t b).2) ((low t b).2 * s) = low (t * s + b) (b * s) := by
  have h := low_bpos (t := t) hb
  have p1 : 0 < (low t b).2 * s := Int.mul_pos (by omega) (by omega)
  have p2 : 0 < b * s := Int.mul_pos (by omega) (by omega)
  refine low_uniq p1 p2 ?_
  have c := low_cross t b
  generalize (low t b).1 = x at *
  generalize (low t b).2 = y at *
  have c2 : t * y * (s * s) = x * b * (s * s) := by rw [c]
  simp only [Int.add_mul, Int.mul_add, Int.one_mul] at *
  simp only [Int.mul_comm, Int.mul_left_comm, Int.mul_assoc] at *
  omega
theorem lowS_snoc {xs : List Int} {s : Int} (h : Pos xs) (hs : 1 ≤ s) : low ((lowS xs).1 * s + 1 * (lowS xs).2) ((lowS xs).2 * s) = lowS (xs ++ [s]) := by
  unfold lowS
  rw [low_step (sumS_pos _ h).2.1 hs, sumS_snoc]
theorem prod_sz {m : Nat} (xs : List Int) : (∀ x ∈ xs, (1 : Int) ≤ x ∧ Sz m x) → Sz (m * xs.length + 1) (sumS xs).2 := by
  refine snoc_ind (fun xs => (∀ x ∈ xs, (1 : Int) ≤ x ∧ Sz m x) → Sz (m * xs.length + 1) (sumS xs).2) xs (fun _ => Sz.one (by show 0 < m * 0 + 1; omega)) (fun l x ih h => ?_)
  have h1 := ih fun y hy => h y (List.mem_append_left _ hy)
  have h2 := (h x (List.mem_append_right _ List.mem_cons_self)).2
  rw [sumS_snoc, List.length_append]
  exact (h1.mul h2).mono (by show m * l.length + 1 + m ≤ m * (l.length + 1) + 1; rw [Nat.mul_add]; omega)
theorem cm_prod {x y : Int} {n : Nat} (hx : 0 ≤ x) (hy : 1 ≤ y) (h : Sz n (x * y)) (h2 : Sz n y) (h0 : 0 < n := by decide) (hn : n ≤ 1000000 := by decide) : CMulW x y := by
  unfold CMulW
  by_cases z : x = 0
  · subst z
    have := PySem.Flt.log2_lt_of h0 h2
    have e : (0 : Int).natAbs.log2 = 0 := by decide
    omega
  · have a := Nat.log2_self_le (n := x.natAbs) (by omega)
    have b := Nat.log2_self_le (n := y.natAbs) (by omega)
    have c : 2 ^ (x.natAbs.log2 + y.natAbs.log2) < 2 ^ n := by
      rw [Nat.pow_add]
      refine Nat.lt_of_le_of_lt (Nat.mul_le_mul a b) ?_
      rw [← Int.natAbs_mul]
      exact h
    have := (Nat.pow_lt_pow_iff_right (by decide : 1 < 2)).mp c
    omega
/-- sizes within a sum, great ones -/
structure SumC (xs : List Int) : Prop where
  pos : Pos xs
  sz : Sz 600000 (sumS xs).2
  len : xs.length ≤ 1000
  d1 : CDivP (sumS xs).1 (gc (sumS xs).1 (sumS xs).2)
  d2 : CDivP (sumS xs).2 (gc (sumS xs).1 (sumS xs).2)
theorem SumOk.c {xs : List Int} (h : SumOk xs) : SumC xs := by
  obtain ⟨a, b, c⟩ := sumS_pos _ h.pos
  have g := gc_pos (t := (sumS xs).1) b
  have z : Sz 9000 (gc (sumS xs).1 (sumS xs).2) := (h.sz.mono : Sz 9000 _).le (by omega) (gc_le b)
  exact ⟨h.pos, h.sz.mono, h.len, z.cd g, z.cd g⟩
theorem SumC.at {xs : List Int} (h : SumC xs) (i : Nat) : Sz 600000 (sumS (xs.take i)).2 ∧ Sz 600010 (sumS (xs.take i)).1 := by
  obtain ⟨a, b, c⟩ := sumS_pos _ (pos_take h.pos i)
  have s2 : Sz 600000 (sumS (xs.take i)).2 := h.sz.le (by omega) (sumS_take_le h.pos i)
  have hl : Sz 10 ((xs.take i).length : Int) := by
    have := h.len
    have : (xs.take i).length ≤ xs.length := by rw [List.length_take]; omega
    show ((xs.take i).length : Int).natAbs < 1024
    omega
  exact ⟨s2, (hl.mul s2).mono.le a c⟩
theorem SumC.step {xs : List Int} (h : SumC xs) {i : Nat} {s : Int} (e : xs[i]? = some s) : CMulW (sumS (xs.take i)).1 s ∧ CMulW (sumS (xs.take i)).2 s := by
  have hs : 1 ≤ s := h.pos s (List.mem_of_getElem? e)
  obtain ⟨a, b, c⟩ := sumS_pos _ (pos_take h.pos i)
  have k := h.at (i + 1)
  rw [take_snoc e, sumS_snoc] at k
  obtain ⟨k1, k2⟩ := k
  have k1 : Sz 600000 ((sumS (xs.take i)).2 * s) := k1
  have k2 : Sz 600010 ((sumS (xs.take i)).1 * s + (sumS (xs.take i)).2) := k2
  have p1 : 0 ≤ (sumS (xs.take i)).1 * s := Int.mul_nonneg a (by omega)
  have s1 : s ≤ (sumS (xs.take i)).2 * s := by
    have : 1 * s ≤ (sumS (xs.take i)).2 * s := Int.mul_le_mul_of_nonneg_right b (by omega)
    omega
  have zs : Sz 600000 s := k1.le (by omega) s1
  exact ⟨cm_prod (n := 600010) a hs (k2.le p1 (by omega)) zs.mono, cm_prod (n := 600000) (by omega) hs k1 zs⟩

--: math = sums
/-! ### rising factors -/
/-- the least number that is no less than t / b -/
def upF (t b : Int) : Int := (t + b - 1) / b
theorem upF_hi {B T : Int} (h : 1 ≤ T) : B ≤ upF B T * T := by
  have e := Int.emod_add_mul_ediv (B + T - 1) T
  have l := Int.emod_lt_of_pos (B + T - 1) (b := T) (by omega)
  rw [Int.mul_comm] at e
  unfold upF
  omega
theorem upF_lo {B T : Int} (h : 1 ≤ T) : (upF B T - 1) * T < B := by
  have e := Int.emod_add_mul_ediv (B + T - 1) T
  have l := Int.emod_nonneg (B + T - 1) (b := T) (by omega)
  rw [Int.mul_comm] at e
  unfold upF
  rw [Int.sub_mul]
  omega
theorem upF_uniq {B T n : Int} (h : 1 ≤ T) (h1 : (n - 1) * T < B) (h2 : B ≤ n * T) : upF B T = n := by
  have a := upF_hi (B := B) h
  have b := upF_lo (B := B) h
  have c1 : upF B T - 1 < n := Int.lt_of_mul_lt_mul_right (Int.lt_of_lt_of_le b h2) (by omega)
  have c2 : n - 1 < upF B T := Int.lt_of_mul_lt_mul_right (Int.lt_of_lt_of_le h1 a) (by omega)
  omega
theorem upF_two {B T : Int} (h : 1 ≤ T) (hb : T < B) : 2 ≤ upF B T := by
  have a := upF_hi (B := B) h
  by_cases c : 2 ≤ upF B T
  · exact c
  · have : upF B T * T ≤ 1 * T := Int.mul_le_mul_of_nonneg_right (by omega) (by omega)
    omega
theorem upF_le {B T : Int} (h : 1 ≤ T) (hb : 1 ≤ B) : upF B T ≤ B := by
  have b := upF_lo (B := B) h
  by_cases c : upF B T ≤ B
  · exact c
  · have : B * T ≤ (upF B T - 1) * T := Int.mul_le_mul_of_nonneg_right (by omega) (by omega)
    have : B * 1 ≤ B * T := Int.mul_le_mul_of_nonneg_left h (by omega)
    omega
theorem upF_pos {B T : Int} (h : 1 ≤ T) (hb : 1 ≤ B) : 1 ≤ upF B T := by
  have a := upF_hi (B := B) h
  by_cases c : 1 ≤ upF B T
  · exact c
  · have : upF B T * T ≤ 0 * T := Int.mul_le_mul_of_nonneg_right (by omega) (by omega)
    omega
/-- what is left of the top -/
def nxt (T B : Int) : Int := T * upF B T - B
theorem nxt_nn {T B : Int} (h : 1 ≤ T) : 0 ≤ nxt T B := by
  have a := upF_hi (B := B) h
  unfold nxt
  rw [Int.mul_comm]
  omega
theorem nxt_lt {T B : Int} (h : 1 ≤ T) : nxt T B < T := by
  have b := upF_lo (B := B) h
  rw [Int.sub_mul] at b
  unfold nxt
  rw [Int.mul_comm]
  omega
def rf : Nat → Int → Int → List Int
  | 0, _, _ => []
  | k + 1, T, B => if T ≤ 0 then [] else upF B T :: rf k (nxt T B) B
/-- the numbers of the rising factors of T / B -/
def rfs (T B : Int) : List Int := rf T.toNat T B
theorem rf_fuel : ∀ (k : Nat) (T B : Int), T.toNat ≤ k → rf k T B = rf T.toNat T B
  | 0, T, B, h => by
    have e : T.toNat = 0 := by omega
    rw [e]
  | k + 1, T, B, h => by
    by_cases c : T ≤ 0
    · have e : T.toNat = 0 := by omega
      rw [e]
      show (if T ≤ 0 then [] else _) = _
      rw [if_pos c] <;> rfl
    · obtain ⟨m, em⟩ : ∃ m, T.toNat = m + 1 := ⟨T.toNat - 1, by omega⟩
      have l := nxt_lt (T := T) (B := B) (by omega)
      rw [em]
      show (if T ≤ 0 then [] else upF B T :: rf k (nxt T B) B) = (if T ≤ 0 then [] else upF B T :: rf m (nxt T B) B)
      rw [rf_fuel k (nxt T B) B (by omega), rf_fuel m (nxt T B) B (by omega)]
theorem rfs_nil {T B : Int} (h : T ≤ 0) : rfs T B = [] := by
  have e : T.toNat = 0 := by omega
  unfold rfs
  rw [e] <;> rfl
theorem rfs_cons {T B : Int} (h : 1 ≤ T) : rfs T B = upF B T :: rfs (nxt T B) B := by
  obtain ⟨m, em⟩ : ∃ m, T.toNat = m + 1 := ⟨T.toNat - 1, by omega⟩
  have l := nxt_lt (T := T) (B := B) h
  unfold rfs
  rw [em]
  show (if T ≤ 0 then [] else upF B T :: rf m (nxt T B) B) = _
  rw [if_neg (by omega), rf_fuel m (nxt T B) B (by omega)]
/-- by what is left -/
theorem rfs_ind (P : Int → Prop) {B : Int} (h0 : ∀ T, T ≤ 0 → P T) (hs : ∀ T, 1 ≤ T → P (nxt T B) → P T) : ∀ T, P T := fun T => by
  have : ∀ (k : Nat) (T : Int), T.toNat ≤ k → P T := fun k => by
    induction k with
    | zero => exact fun T h => h0 T (by omega)
    | succ k ih =>
      intro T h
      by_cases c : T ≤ 0
      · exact h0 T c
      · have l := nxt_lt (T := T) (B := B) (by omega)
        exact hs T (by omega) (ih _ (by omega))
  exact this _ T (Nat.le_refl _)
theorem upF_rel {T B t b : Int} (hT : 1 ≤ T) (ht : 1 ≤ t) (hB : 1 ≤ B) (hb : 1 ≤ b) (e : T * b = t * B) : upF B T = upF b t := by
  have a1 := upF_hi (B := b) ht
  have a2 := upF_lo (B := b) ht
  generalize upF b t = n at *
  refine upF_uniq hT ?_ ?_
  · refine Int.lt_of_mul_lt_mul_right (a := b) ?_ (by omega)
    have : (n - 1) * T * b = (n - 1) * t * B := by rw [Int.mul_assoc, e, ← Int.mul_assoc]
    rw [this, Int.mul_comm B b]
    exact Int.mul_lt_mul_of_pos_right a2 (by omega)
  · refine Int.le_of_mul_le_mul_right (a := b) ?_ (by omega)
    have : n * T * b = n * t * B := by rw [Int.mul_assoc, e, ← Int.mul_assoc]
    rw [this, Int.mul_comm B b]
    exact Int.mul_le_mul_of_nonneg_right a1 (by omega)
theorem rfs_rel {B b : Int} (hB : 1 ≤ B) (hb : 1 ≤ b) : ∀ (T t : Int), 0 ≤ T → 0 ≤ t → T * b = t * B → rfs T B = rfs t b := by
  refine rfs_ind (B := B) (fun T => ∀ t, 0 ≤ T → 0 ≤ t → T * b = t * B → rfs T B = rfs t b) (fun T h t h0 h1 e => ?_) (fun T h ih t h0 h1 e => ?_)
  · have z : T = 0 := by omega
    subst z
    rw [Int.zero_mul] at e
    have zt : t = 0 := (Int.mul_eq_zero.mp e.symm).resolve_right (by omega)
    subst zt
    rw [rfs_nil (Int.le_refl 0), rfs_nil (Int.le_refl 0)]
  · have ht : 1 ≤ t := by
      by_cases z : t = 0
      · rw [z, Int.zero_mul] at e
        have := Int.mul_pos (a := T) (b := b) (by omega) (by omega)
        omega
      · omega
    have eu := upF_rel h ht hB hb e
    rw [rfs_cons h, rfs_cons ht, eu]
    congr 1
    refine ih _ (nxt_nn h) (nxt_nn ht) ?_
    unfold nxt
    rw [eu, Int.sub_mul, Int.sub_mul, Int.mul_right_comm, e, Int.mul_right_comm, Int.mul_comm b B]
/-- each is two or more, none falls, none above B -/
theorem rfs_low {B : Int} (hB : 1 ≤ B) : ∀ T, T < B → (∀ n ∈ rfs T B, 2 ≤ n ∧ n ≤ B) ∧ (rfs T B).Pairwise (· ≤ ·) ∧ (1 ≤ T → ∀ n ∈ rfs T B, upF B T ≤ n) := by
  refine rfs_ind (B := B) (fun T => T < B → (∀ n ∈ rfs T B, 2 ≤ n ∧ n ≤ B) ∧ (rfs T B).Pairwise (· ≤ ·) ∧ (1 ≤ T → ∀ n ∈ rfs T B, upF B T ≤ n)) (fun T h _ => ?_) (fun T h ih hT => ?_)
  · rw [rfs_nil h]
    exact ⟨fun _ m => (nomatch m), List.Pairwise.nil, fun _ _ m => (nomatch m)⟩
  · have l := nxt_lt (B := B) h
    obtain ⟨i1, i2, i3⟩ := ih (by omega)
    have up : ∀ n ∈ rfs (nxt T B) B, upF B T ≤ n := fun n hn => by
      by_cases c : 1 ≤ nxt T B
      · have a := i3 c n hn
        have b1 := upF_hi (B := B) c
        have b2 := upF_lo (B := B) h
        have : (upF B T - 1) * nxt T B ≤ (upF B T - 1) * T := Int.mul_le_mul_of_nonneg_left (by omega) (by have := upF_two h hT; omega)
        have : (upF B T - 1) * nxt T B < upF B (nxt T B) * nxt T B := by omega
        have := Int.lt_of_mul_lt_mul_right this (by omega)
        omega
      · rw [rfs_nil (by omega)] at hn
        cases hn
    rw [rfs_cons h]
    refine ⟨fun n hn => ?_, List.pairwise_cons.mpr ⟨up, i2⟩, fun _ n hn => ?_⟩
    · rcases List.mem_cons.mp hn with rfl | m
      · exact ⟨upF_two h hT, upF_le h hB⟩
      · exact i1 n m
    · rcases List.mem_cons.mp hn with rfl | m
      · exact Int.le_refl _
      · exact up n m
theorem rfs_len {B : Int} : ∀ T, 0 ≤ T → ((rfs T B).length : Int) ≤ T := by
  refine rfs_ind (B := B) (fun T => 0 ≤ T → ((rfs T B).length : Int) ≤ T) (fun T h h0 => ?_) (fun T h ih _ => ?_)
  · rw [rfs_nil h]
    exact h0
  · have l := nxt_lt (B := B) h
    have := ih (nxt_nn h)
    rw [rfs_cons h, List.length_cons]
    omega

--: math = rf
/-! ### the shares of the rising factors -/
def prodsF (p : Int) : List Int → List Int
  | [] => []
  | n :: r => (p * n) :: prodsF (p * n) r
theorem prodsF_snoc : ∀ (xs : List Int) (p n : Int), prodsF p (xs ++ [n]) = prodsF p xs ++ [p * xs.foldl (· * ·) 1 * n]
  | [], p, n => by
    show [p * n] = [p * 1 * n]
    rw [Int.mul_one]
  | x :: xs, p, n => by
    show (p * x) :: prodsF (p * x) (xs ++ [n]) = (p * x) :: (prodsF (p * x) xs ++ [p * (x :: xs).foldl (· * ·) 1 * n])
    rw [prodsF_snoc xs (p * x) n]
    have e : ∀ (l : List Int) (a b : Int), l.foldl (· * ·) (a * b) = a * l.foldl (· * ·) b := fun l => by
      induction l with
      | nil => exact fun _ _ => rfl
      | cons y l ih =>
        intro a b
        show l.foldl (· * ·) (a * b * y) = a * l.foldl (· * ·) (b * y)
        rw [Int.mul_assoc, ih]
    show _ = (p * x) :: (prodsF (p * x) xs ++ [p * xs.foldl (· * ·) (1 * x) * n])
    rw [Int.one_mul]
    have := e xs x 1
    rw [Int.mul_one] at this
    rw [this, Int.mul_assoc p x]
theorem prodsF_len : ∀ (xs : List Int) (p : Int), (prodsF p xs).length = xs.length
  | [], _ => rfl
  | x :: xs, p => by
    show (prodsF (p * x) xs).length + 1 = xs.length + 1
    rw [prodsF_len xs]
theorem prodsF_sz : ∀ (xs : List Int) (p : Int) (q : Nat), 1 ≤ p → Sz q p → (∀ n ∈ xs, 2 ≤ n ∧ Sz 10 n) → ∀ s ∈ prodsF p xs, 1 ≤ s ∧ Sz (q + 10 * xs.length) s
  | [], _, _, _, _, _, _, m => nomatch m
  | x :: xs, p, q, hp, hq, h, s, m => by
    obtain ⟨x1, x2⟩ := h x List.mem_cons_self
    have p1 : 1 ≤ p * x := Int.mul_pos (by omega) (by omega)
    have p2 := hq.mul x2
    rcases List.mem_cons.mp m with rfl | m
    · exact ⟨p1, p2.mono (by rw [List.length_cons]; omega)⟩
    · obtain ⟨a, b⟩ := prodsF_sz xs (p * x) (q + 10) p1 p2 (fun n hn => h n (List.mem_cons_of_mem _ hn)) s m
      exact ⟨a, b.mono (by rw [List.length_cons]; omega)⟩
theorem fold_rfs {B : Int} (hB : 1 ≤ B) : ∀ (T : Int) (u v p : Int), 0 ≤ T → 1 ≤ v → 1 ≤ p → ((prodsF p (rfs T B)).foldl (fun q s => (q.1 * s + q.2, q.2 * s)) (u, v)).1 * (v * (B * p)) = (u * (B * p) + T * v) * ((prodsF p (rfs T B)).foldl (fun q s => (q.1 * s + q.2, q.2 * s)) (u, v)).2 := by
  refine rfs_ind (B := B) (fun T => ∀ (u v p : Int), 0 ≤ T → 1 ≤ v → 1 ≤ p → ((prodsF p (rfs T B)).foldl (fun q s => (q.1 * s + q.2, q.2 * s)) (u, v)).1 * (v * (B * p)) = (u * (B * p) + T * v) * ((prodsF p (rfs T B)).foldl (fun q s => (q.1 * s + q.2, q.2 * s)) (u, v)).2) (fun T h u v p h0 hv hp => ?_) (fun T h ih u v p h0 hv hp => ?_)
  · have z : T = 0 := by omega
    subst z
    rw [rfs_nil (Int.le_refl 0), Int.zero_mul, Int.add_zero]
    show u * (v * (B * p)) = u * (B * p) * v
    rw [Int.mul_comm v (B * p), Int.mul_assoc u]
  · have n1 := upF_pos (B := B) h hB
    have e := ih (u * (p * upF B T) + v) (v * (p * upF B T)) (p * upF B T) (nxt_nn h) (Int.mul_pos (by omega) (Int.mul_pos (by omega) (by omega))) (Int.mul_pos (by omega) (by omega))
    rw [rfs_cons h]
    show (List.foldl _ (u * (p * upF B T) + v, v * (p * upF B T)) (prodsF (p * upF B T) (rfs (nxt T B) B))).1 * (v * (B * p)) = (u * (B * p) + T * v) * (List.foldl _ (u * (p * upF B T) + v, v * (p * upF B T)) (prodsF (p * upF B T) (rfs (nxt T B) B))).2
    revert e
    generalize List.foldl (fun q s => (q.1 * s + q.2, q.2 * s)) (u * (p * upF B T) + v, v * (p * upF B T)) (prodsF (p * upF B T) (rfs (nxt T B) B)) = X
    unfold nxt
    generalize upF B T = n at *
    obtain ⟨x, y⟩ := X
    intro e
    have e : x * (v * (p * n) * (B * (p * n))) = ((u * (p * n) + v) * (B * (p * n)) + (T * n - B) * (v * (p * n))) * y := e
    show x * (v * (B * p)) = (u * (B * p) + T * v) * y
    have pn : 0 < p * n * n := Int.mul_pos (Int.mul_pos (by omega) (by omega)) (by omega)
    refine Int.eq_of_mul_eq_mul_right (a := p * n * n) (by omega) ?_
    have l : x * (v * (B * p)) * (p * n * n) = x * (v * (p * n) * (B * (p * n))) := by
      simp only [Int.mul_comm, Int.mul_left_comm, Int.mul_assoc]
    have r : (u * (B * p) + T * v) * y * (p * n * n) = ((u * (p * n) + v) * (B * (p * n)) + (T * n - B) * (v * (p * n))) * y := by
      simp only [Int.add_mul, Int.sub_mul]
      simp only [Int.mul_comm, Int.mul_left_comm, Int.mul_assoc]
      omega
    rw [l, r, e]
theorem low_prods {T B : Int} (hB : 1 ≤ B) (hT : 0 ≤ T) (h : Pos (prodsF 1 (rfs T B))) : lowS (prodsF 1 (rfs T B)) = low T B := by
  have e := fold_rfs hB T 0 1 1 hT (by decide) (by decide)
  have b := (sumS_pos _ h).2.1
  refine low_uniq (by omega) (by omega) ?_
  have e : (sumS (prodsF 1 (rfs T B))).1 * (1 * (B * 1)) = (0 * (B * 1) + T * 1) * (sumS (prodsF 1 (rfs T B))).2 := e
  rw [Int.zero_mul, Int.mul_one, Int.mul_one, Int.one_mul, Int.zero_add] at e
  exact e
/-- at most so many -/
theorem rfs_few {B : Int} (hB : B ≤ 1000) : ∀ T : Int, T < B → (rfs T B).length ≤ if T ≤ 0 then 0 else if 16 ≤ upF B T then T.toNat else (16 - (upF B T).toNat) * 10 + (10 - (B - (upF B T - 1) * T).toNat.log2) + 66 := by
  refine rfs_ind (B := B) (fun T => T < B → (rfs T B).length ≤ if T ≤ 0 then 0 else if 16 ≤ upF B T then T.toNat else (16 - (upF B T).toNat) * 10 + (10 - (B - (upF B T - 1) * T).toNat.log2) + 66) (fun T h _ => ?_) (fun T h ih hT => ?_)
  · rw [rfs_nil h]
    exact Nat.zero_le _
  · have l := nxt_lt (B := B) h
    have nn := nxt_nn (B := B) h
    have i := ih (by omega)
    rw [rfs_cons h, List.length_cons, if_neg (by omega)]
    have n2 := upF_two h hT
    have lo := upF_lo (B := B) h
    have hi := upF_hi (B := B) h
    have lg : (B - (upF B T - 1) * T).toNat.log2 ≤ 9 := by
      have z : (B - (upF B T - 1) * T).toNat ≠ 0 := by omega
      have p : 0 ≤ (upF B T - 1) * T := Int.mul_nonneg (by omega) (by omega)
      have := (Nat.log2_lt z (k := 10)).mpr (by show _ < 1024; omega)
      omega
    by_cases z : nxt T B ≤ 0
    · rw [if_pos z] at i
      split
      · omega
      · omega
    · rw [if_neg z] at i
      have z1 : 1 ≤ nxt T B := by omega
      have hi1 := upF_hi (B := B) z1
      have lo1 := upF_lo (B := B) z1
      have le : upF B T ≤ upF B (nxt T B) := by
        have : (upF B T - 1) * nxt T B ≤ (upF B T - 1) * T := Int.mul_le_mul_of_nonneg_left (by omega) (by omega)
        have : (upF B T - 1) * nxt T B < upF B (nxt T B) * nxt T B := by omega
        have := Int.lt_of_mul_lt_mul_right this (by omega)
        omega
      by_cases c1 : 16 ≤ upF B (nxt T B)
      · rw [if_pos c1] at i
        have small : nxt T B ≤ 66 := by
          have : 15 * nxt T B ≤ (upF B (nxt T B) - 1) * nxt T B := Int.mul_le_mul_of_nonneg_right (by omega) (by omega)
          omega
        split
        · omega
        · omega
      · rw [if_neg c1] at i
        rw [if_neg (by omega)]
        by_cases c2 : upF B T = upF B (nxt T B)
        · rw [← c2] at i
          have ed : B - (upF B T - 1) * nxt T B = upF B T * (B - (upF B T - 1) * T) := by
            unfold nxt
            generalize upF B T = n
            simp only [Int.sub_mul, Int.mul_sub, Int.one_mul]
            simp only [Int.mul_comm, Int.mul_left_comm, Int.mul_assoc]
            omega
          have lg2 : (B - (upF B T - 1) * T).toNat.log2 + 1 ≤ (B - (upF B T - 1) * nxt T B).toNat.log2 := by
            rw [ed]
            have g : 2 * (B - (upF B T - 1) * T) ≤ upF B T * (B - (upF B T - 1) * T) := Int.mul_le_mul_of_nonneg_right n2 (by omega)
            refine (Nat.le_log2 (by omega)).mpr ?_
            have := Nat.log2_self_le (n := (B - (upF B T - 1) * T).toNat) (by omega)
            rw [Nat.pow_succ]
            omega
          have lg3 : (B - (upF B T - 1) * nxt T B).toNat.log2 ≤ 9 := by
            have p : 0 ≤ (upF B T - 1) * nxt T B := Int.mul_nonneg (by omega) (by omega)
            have zz : (B - (upF B T - 1) * nxt T B).toNat ≠ 0 := by
              intro q
              rw [q] at lg2
              have : Nat.log2 0 = 0 := by decide
              omega
            have := (Nat.log2_lt zz (k := 10)).mpr (by show _ < 1024; omega)
            omega
          omega
        · omega
theorem rfs_216 {T B : Int} (hB : B ≤ 1000) (hT : T < B) : (rfs T B).length ≤ 216 := by
  have h := rfs_few hB T hT
  split at h
  · omega
  · rename_i c
    have n2 := upF_two (T := T) (by omega) hT
    have lo1 := upF_lo (B := B) (T := T) (by omega)
    split at h
    · rename_i c1
      have : 15 * T ≤ (upF B T - 1) * T := Int.mul_le_mul_of_nonneg_right (by omega) (by omega)
      omega
    · omega
theorem prods_ok {T B : Int} (hB : B ≤ 1000) (h1 : 1 ≤ B) (hT : T < B) (h0 : 0 ≤ T) : SumC (prodsF 1 (rfs T B)) := by
  have lw := rfs_low h1 T hT
  have few := rfs_216 hB hT
  have each : ∀ s ∈ prodsF 1 (rfs T B), 1 ≤ s ∧ Sz 2170 s := fun s hs => by
    obtain ⟨a, b⟩ := prodsF_sz (rfs T B) 1 1 (by decide) Sz.one (fun n hn => ⟨(lw.1 n hn).1, by
      have := lw.1 n hn
      show n.natAbs < 1024
      omega⟩) s hs
    exact ⟨a, b.mono (by omega)⟩
  have pos : Pos (prodsF 1 (rfs T B)) := fun s hs => (each s hs).1
  have e := low_prods h1 h0 pos
  have b := (sumS_pos _ pos).2.1
  have z1 : Sz 3000 (low (sumS (prodsF 1 (rfs T B))).1 (sumS (prodsF 1 (rfs T B))).2).1 := by
    have : low (sumS (prodsF 1 (rfs T B))).1 (sumS (prodsF 1 (rfs T B))).2 = low T B := e
    rw [this]
    refine (Sz.mono (a := 10) ?_ (by decide))
    have := low_tle (b := B) h0
    have := low_tnn (b := B) h1 h0
    show (low T B).1.natAbs < 1024
    omega
  have z2 : Sz 3000 (low (sumS (prodsF 1 (rfs T B))).1 (sumS (prodsF 1 (rfs T B))).2).2 := by
    have : low (sumS (prodsF 1 (rfs T B))).1 (sumS (prodsF 1 (rfs T B))).2 = low T B := e
    rw [this]
    refine (Sz.mono (a := 10) ?_ (by decide))
    have := low_ble (t := T) h1
    have := low_bpos (t := T) h1
    show (low T B).2.natAbs < 1024
    omega
  obtain ⟨d1, d2⟩ := low_near b z1 z2
  refine ⟨pos, (prod_sz _ each).mono ?_, ?_, d1, d2⟩
  · rw [prodsF_len]
    omega
  · rw [prodsF_len]
    omega

/-! ### set(xs) of a list of ints -/
section
variable {P : Program} {w : World} {A : Around} {E : Value → Shared → Prop}
/-- a set that was just made -/
abbrev bare (w : World) : Obj := { cls := .type "set", dict := none, data := .set #[] 0 (.fresh 0 0 (!w.params.followText "set-order")) }
/-- what set.__init__ leaves of s, the set at a: it holds the ints, all of g is kept -/
def Filled (w : World) (s : Shared) (g : Heap) (a : Addr) (ns : List Int) (v : Value) (s' : Shared) : Prop :=
  v = .none ∧ ∃ h tk c, s' = { s with heap := h, toks := tk } ∧ SetR w h a (fun j => decide (j ∈ ns)) c ∧ c ≤ ns.length ∧ ∀ b o, g.get? b = some o → h.get? b = some o
/-- the filling, over the list's own iterator -/
theorem fill_list {g : Heap} {s : Shared} {l : Addr} {its : Array Value} {ns : List Int} (hs : s.heap = (g.push (bare w)).push { cls := .type "list_iterator", data := .fields #[.ref l, .int 0 0] }) (hh : A.handled = none)
    (hl : g.IsList l its) (hi : IntsAre its.toList ns) (hn : its.size = ns.length) (hb : ns.length + 1 < scanBound) {R : Result → Shared → Prop} (hr : ∀ s', Filled w s g g.objs.size ns .none s' → R (.ok (.ret .none)) s') :
    codeAny (model P w) A (.builtin "set.update.loop" ⟨[.ref g.objs.size, .ref (g.objs.size + 1)], []⟩) R s := by
  have lt : l < g.objs.size := by
    obtain ⟨o, e, _⟩ := hl
    exact Heap.lt_size e
  have z1 : (g.push (bare w)).objs.size = g.objs.size + 1 := Heap.size_push ..
  have a0 : (g.push (bare w)).get? g.objs.size = some (bare w) := Heap.get?_push_size _ rfl
  have apart : g.objs.size ∉ [g.objs.size + 1, l] := by
    intro m
    rcases List.mem_cons.mp m with e | m
    · exact Nat.ne_of_lt (Nat.lt_succ_self _) e
    · exact Nat.ne_of_gt lt (List.mem_singleton.mp m)
  have val : ∀ (i : Nat) (v : Value), its[i]? = some v → ∃ k t, ns[i]? = some k ∧ v = .int k t := fun i v e => by
    have hi' : i < ns.length := hn ▸ (Array.getElem?_eq_some_iff.mp e).1
    obtain ⟨t, q⟩ := IntsAre.int_at hi i v (by rw [Array.getElem?_toList]; exact e)
    have d : ns.getD i 0 = ns[i] := by rw [List.getD_eq_getElem?_getD, List.getElem?_eq_getElem hi'] <;> rfl
    exact ⟨ns[i], t, List.getElem?_eq_getElem hi', by rw [q, d]⟩
  have hh1 : A.in1.handled = none := hh
  have hl1 : (g.push (bare w)).IsList l its := hl.push _
  obtain ⟨hp, gg, d, tk, os⟩ := s
  have hs : hp = (g.push (bare w)).push { cls := .type "list_iterator", data := .fields #[.ref l, .int 0 0] } := hs
  subst hs
  have W := (Walks.list (prog := P) (w := w) hh1 (g.objs.size + 1) l (Nat.ne_of_lt (Nat.lt_succ_of_lt lt)) its).toS
  refine set_update_ints W g.objs.size apart ns hn hb val (its.size - 0) 0 _ (by omega) (Nat.zero_le _) ?_ ⟨0, Nat.le_refl 0, setR_new_at (Heap.get?_push_of_some _ a0)⟩ fun s' c m hc hR => ?_
  · exact ⟨⟨_, by rw [← z1]; exact Heap.get?_push_size _ rfl, rfl, rfl⟩, hl1.push _⟩
  · obtain ⟨h', g2, d2, tk2, os2⟩ := s'
    cases (m.gens : g2 = gg)
    cases (m.drawn : d2 = d)
    cases (m.os : os2 = os)
    refine hr _ ⟨rfl, h', tk2, c, rfl, hR, hn ▸ hc, fun b o e => ?_⟩
    have hb' := Heap.lt_size e
    refine m.heap b o (fun z => ?_) (Heap.get?_push_of_some _ (Heap.get?_push_of_some _ e))
    rcases List.mem_cons.mp z with z | z
    · exact Nat.ne_of_lt hb' z
    · exact Nat.ne_of_lt (Nat.lt_succ_of_lt hb') (List.mem_singleton.mp z)
set_option maxHeartbeats 3200000 in
theorem init_list {g : Heap} {s : Shared} {l : Addr} {its : Array Value} {ns : List Int} (hs : s.heap = g.push (bare w)) (hh : A.handled = none) (hl : g.IsList l its) (hi : IntsAre its.toList ns) (hn : its.size = ns.length) (hb : ns.length + 1 < scanBound) :
    codeAny (model P w) A (.call (.builtin "set.__init__") ⟨[.ref g.objs.size, .ref l], []⟩) (wants (Filled w s g g.objs.size ns) E) s := by
  have here : s.heap.get? g.objs.size = some (bare w) := by
    rw [hs]
    exact Heap.get?_push_size _ rfl
  have ty : s.TypeIs (.ref g.objs.size) "set" := ⟨_, here, rfl⟩
  have hl1 : s.heap.IsList l its := by
    rw [hs]
    exact hl.push _
  refine codeAny_call_builtin F.called_set.init.plain F.entry_set_init (check_set_init_1 ty ?_)
  obtain ⟨ol, gl, cl, nl, dl⟩ := id hl1
  obtain ⟨ocls, odict, odata, oslots⟩ := ol
  simp only at cl dl
  subst cl dl
  have n1 := F.sub_list_set
  have n2 := F.sub_list_frozenset
  have n3 : (Value.type "list" == Value.type "dict") = false := by decide
  obtain ⟨hp, gg, d, tk, os⟩ := s
  dsimp only at hs here gl hl1 ty
  subst hs
  unfold Builtin.«set.__init__» noKeywords Builtin.Frozenset.updateFrom
  generalize eI : pyIter = it
  wp_walk
  subst eI
  refine wpAny_pyIter_list hl1 ?_
  refine wpAny_bind (wpAny_runValue ?_)
  have z1 : (g.push (bare w)).objs.size = g.objs.size + 1 := Heap.size_push ..
  rw [z1]
  refine fill_list (g := g) rfl (by simpa using hh) hl hi hn hb fun s' f => ?_
  obtain ⟨_, h', tk', c, rfl, r⟩ := f
  show wpAny _ _ _ _ _ _
  refine wpAny_pure ?_
  show wpAny _ _ (ret Value.none) _ _ _
  exact wpAny_pure ⟨rfl, h', tk', c, rfl, r⟩
set_option maxHeartbeats 3200000 in
theorem set_of_list {s : Shared} {l : Addr} {its : Array Value} {ns : List Int} (hh : A.handled = none) (hl : s.heap.IsList l its) (hi : IntsAre its.toList ns) (hb : ns.length + 1 < scanBound) {Q : Value → Shared → Prop}
    (hq : ∀ (h : Heap) (tk c : Nat), SetR w h s.heap.objs.size (fun j => decide (j ∈ ns)) c → c ≤ ns.length → (∀ b o, s.heap.get? b = some o → h.get? b = some o) → Q (.ref s.heap.objs.size) { s with heap := h, toks := tk }) :
    wpAny (model P w) A (call (.type "set") [.ref l]) Q E s := by
  have hn : its.size = ns.length := by
    have q := IntsAre.length hi
    rwa [Array.length_toList] at q
  obtain ⟨c, tl, hmro⟩ := F.called_set.mro
  have f1 := F.called_set.made
  have f2 := F.called_set.sub
  have f3 := F.called_set.notType
  have f4 := F.called_set.canCreate
  have f5 := F.typeCall_set_1 (.ref l)
  refine wpAny_call (codeAny_of_tree ?_)
  show wpAny _ _ (callAny (.type "set") _) _ _ _
  refine wpAny_pure ⟨Code.quiet_builtin _ (by decide +kernel), codeAny_builtin F.entry_type_call ?_⟩
  rw [Around.under_plain (weight_type_call_type "set" [.ref l] []) rfl]
  repeat (any_goals (first | assumption | wp_step))
  refine codeAny_mono (code_set_led1 (w := w) (.ref l) (E := E) (Q₁ := fun u s₁ => u = .ref s.heap.objs.size ∧ s₁ = { s with heap := s.heap.push (bare w) }) ⟨rfl, rfl⟩) fun r s₁ hr => ?_
  cases r with
  | error e => exact hr
  | ok fl =>
    cases fl with
    | ret u =>
      obtain ⟨rfl, rfl⟩ := hr
      have here : (s.heap.push (bare w)).get? s.heap.objs.size = some (bare w) := Heap.get?_push_size _ rfl
      have ty : Shared.TypeIs { s with heap := s.heap.push (bare w) } (.ref s.heap.objs.size) "set" := ⟨_, here, rfl⟩
      have g1 := F.called_set.init.lookup
      have g2 := F.called_set.init.bind (.ref s.heap.objs.size)
      repeat (any_goals (first | assumption | wp_step))
      refine codeAny_mono (init_list (s := { s with heap := s.heap.push (bare w) }) rfl hh hl hi hn hb (E := E)) fun r₂ s₂ h₂ => ?_
      cases r₂ with
      | error e => exact h₂
      | ok f2 =>
        cases f2 with
        | ret v =>
          obtain ⟨rfl, h', tk', c', rfl, hR, hc, hk⟩ := h₂
          repeat (any_goals (first | assumption | wp_step))
          exact hq _ _ _ hR hc hk
        | next => exact h₂.elim
        | brk => exact h₂.elim
        | cont => exact h₂.elim
    | next => exact hr.elim
    | brk => exact hr.elim
    | cont => exact hr.elim
end
/-- set(xs) -/
def rSetL (K : PySem.W.Frag) (w : World) : List V → Hp → VK → Prop := fun vs H Q => ∃ (l : Addr) (ns : List Int), vs = [V.ref l] ∧ SqL K H l (ns.map V.int) ∧ ns.length < 4000 ∧
  ∀ (p : Addr) (c : Nat), H p = none → c ≤ ns.length → Q (.ref p) (upd H p (SetO w p (fun j => decide (j ∈ ns)) c))
theorem cr_setL {X : Cx} (hc : X.calm = true) : CallR X (.type "set") (rSetL X.K X.w) := by
  intro pins s σ H vs us Q I r h
  obtain ⟨l, ns, rfl, hS, hn, q⟩ := h
  obtain ⟨u, rfl, ru⟩ := vals1 r
  cases ru
  obtain ⟨its, rv, pl, hz⟩ := I.list hS
  refine set_of_list (I.ok.hd hc) pl.isList (ns := ns) (by simpa using RZ.intsAre_vals rv) (by unfold scanBound; omega) fun h tk c hR hc' hk => ?_
  exact ⟨.ref _, _, I.laid (t' := tk) (a := s.heap.objs.size) hk (Nat.le_refl _) (setO_new hR), rfl, q _ c (I.hok.fresh (Nat.le_refl _)) hc'⟩

/-! ### pairs of ints, compared -/
theorem dp_pair {K : PySem.W.Frag} {H : Hp} {a : Addr} {t u : Int} (h : SqT K H a [.int t, .int u]) : Dp K H (.ref a) (.tuple [.int t, .int u]) := .tup h (.cons (.int t) (.cons (.int u) .nil))
theorem eqv_pair (t u t' u' : Int) : PyData.eqv (.tuple [.int t, .int u]) (.tuple [.int t', .int u']) = decide (t = t' ∧ u = u') := by
  simp [PyData.eqv, PyData.eqvAll, Bool.decide_and]
  rfl

--: math = setlist
--: math = pairs
/-! ### lists that rise -/
def Ris (xs : List Int) : Prop := xs.Pairwise (· < ·)
instance (xs : List Int) : Decidable (Ris xs) := inferInstanceAs (Decidable (xs.Pairwise _))
theorem ris_uniq : ∀ {a b : List Int}, Ris a → Ris b → (∀ k, k ∈ a ↔ k ∈ b) → a = b
  | [], [], _, _, _ => rfl
  | [], y :: b, _, _, h => absurd ((h y).mpr List.mem_cons_self) (by simp)
  | x :: a, [], _, _, h => absurd ((h x).mp List.mem_cons_self) (by simp)
  | x :: a, y :: b, ha, hb, h => by
    obtain ⟨a1, a2⟩ := List.pairwise_cons.mp ha
    obtain ⟨b1, b2⟩ := List.pairwise_cons.mp hb
    have e : x = y := by
      rcases List.mem_cons.mp ((h x).mp List.mem_cons_self) with e | m
      · exact e
      · rcases List.mem_cons.mp ((h y).mpr List.mem_cons_self) with e | m'
        · exact e.symm
        · have := b1 x m
          have := a1 y m'
          omega
    subst e
    refine congrArg (x :: ·) (ris_uniq a2 b2 fun k => ⟨fun m => ?_, fun m => ?_⟩)
    · rcases List.mem_cons.mp ((h k).mp (List.mem_cons_of_mem _ m)) with e | m'
      · have := a1 k m
        omega
      · exact m'
    · rcases List.mem_cons.mp ((h k).mpr (List.mem_cons_of_mem _ m)) with e | m'
      · have := b1 k m
        omega
      · exact m'
theorem ris_adj {xs : List Int} (h : ∀ (j : Nat) (x y : Int), xs[j]? = some x → xs[j + 1]? = some y → x < y) : Ris xs := by
  refine List.pairwise_iff_getElem.mpr fun i j hi hj hij => ?_
  obtain ⟨d, rfl⟩ : ∃ d, j = i + 1 + d := ⟨j - (i + 1), by omega⟩
  induction d with
  | zero => exact h i _ _ (List.getElem?_eq_getElem hi) (List.getElem?_eq_getElem hj)
  | succ d ih =>
    have h1 := ih (by omega) (by omega)
    have h2 := h (i + 1 + d) _ _ (List.getElem?_eq_getElem (by omega)) (List.getElem?_eq_getElem hj)
    omega
theorem ris_at {xs : List Int} (h : Ris xs) {j : Nat} {x y : Int} (e1 : xs[j]? = some x) (e2 : xs[j + 1]? = some y) : x < y := by
  obtain ⟨h1, rfl⟩ := List.getElem?_eq_some_iff.mp e1
  obtain ⟨h2, rfl⟩ := List.getElem?_eq_some_iff.mp e2
  exact List.pairwise_iff_getElem.mp h j (j + 1) h1 h2 (by omega)
/-! ### data of ints, compared -/
theorem dp_ints {K : PySem.W.Frag} {H : Hp} {a : Addr} {xs : List Int} (h : SqL K H a (xs.map V.int)) : Dp K H (.ref a) (.list (xs.map PyData.int)) := by
  refine .lst h ?_
  clear h
  induction xs with
  | nil => exact .nil
  | cons x xs ih => exact .cons (.int x) ih
theorem eqvAll_ints : ∀ xs ys : List Int, PyData.eqvAll (xs.map PyData.int) (ys.map PyData.int) = decide (xs = ys)
  | [], [] => by simp [PyData.eqvAll]
  | [], y :: ys => by simp [PyData.eqvAll]
  | x :: xs, [] => by simp [PyData.eqvAll]
  | x :: xs, y :: ys => by
    have ih := eqvAll_ints xs ys
    simp only [List.map_cons, PyData.eqvAll, PyData.eqv, ih]
    rw [Bool.eq_iff_iff]
    simp
theorem eqv_ints (xs ys : List Int) : PyData.eqv (.list (xs.map PyData.int)) (.list (ys.map PyData.int)) = decide (xs = ys) := by
  rw [← eqvAll_ints]
  simp only [PyData.eqv]
theorem canLay_ints : ∀ xs : List Int, PyData.canLayAll0 (xs.map PyData.int) = true
  | [] => rfl
  | x :: xs => by
    simp only [List.map_cons, PyData.canLayAll0, PyData.canLay0, canLay_ints xs]
    rfl
theorem depth_ints : ∀ xs : List Int, PyData.depthAll (xs.map PyData.int) = 0
  | [] => rfl
  | x :: xs => by
    simp only [List.map_cons, PyData.depthAll, PyData.depth, depth_ints xs]
    rfl
theorem shaped_ints (xs : List Int) : SeqAt.shaped (.list (xs.map PyData.int)) = true := by
  unfold SeqAt.shaped
  simp only [PyData.canLay0, PyData.depth, canLay_ints, depth_ints]
  rfl

structure ErrA where
  ShareError : Addr
  NoFraction : Addr
  NotBelow : Addr
  TooGreat : Addr
  BadText : Addr
  NotRising : Addr
structure ErrC (K : PySem.W.Frag) (mg : Str → Option Value) (C S : Addr) (x : Str) : Prop where
  g : mg x = some (.ref C)
  x : PySem.W.excIn K C veT "ValueError.__new__" = true
  k : PySem.W.keepIn K (.ref C) = true
  b : PySem.W.subIn K (.ref C) (.type "BaseException") = some true
  t : PySem.W.typeIn K (.ref C) = some (.type "type")
structure ErrOk (K : PySem.W.Frag) (mg : Str → Option Value) (e : ErrA) : Prop where
  ShareError : ErrC K mg e.ShareError e.ShareError "ShareError"
  NoFraction : ErrC K mg e.NoFraction e.ShareError "NoFraction"
  NotBelow : ErrC K mg e.NotBelow e.ShareError "NotBelow"

section
variable {P : Program} {w : World} {K : PySem.W.Frag} {mg : Str → Option Value} {base : Heap} {e : ErrA}

abbrev s_see : Stmt := topS 5
abbrev N_see : List Str := ["fraction"]
theorem sc_see : FnScope N_see ["fraction"] (defScope s_see) := ⟨rfl, rfl, rfl, by decide +kernel, rfl, by decide +kernel, by decide +kernel⟩
def sp_see (K : PySem.W.Frag) (e : ErrA) : Sp := fun vs H Q E => ∃ (a : Addr) (t b : Int), vs = [.ref a] ∧ SqT K H a [.int t, .int b] ∧ ((t < 0 ∨ b < 1) → E (.ref e.NoFraction) none H) ∧ (¬ (t < 0 ∨ b < 1) → Q .non H)
theorem ok_see (D : Stands K mg "see" s_see) (B : Bi mg) (Er : ErrOk K mg e) : Keeps P w K mg base 1 "see" ["fraction"] (sp_see K e) := by
  obtain ⟨f, fd, F, mF⟩ := D
  have h_NoFraction := Er.NoFraction
  refine ⟨f, fd, ?_, F.binds (ps := ["fraction"]) (fun _ _ _ _ _ _ us hl => match us, hl with | [_], _ => rfl), mF, F.kp⟩
  refine F.okX sc_see (fun vs H Q E h => ?_) (fun cdv A outer s H vs Q E hr h => ?_)
  · obtain ⟨a, t, b, rfl, hS, kE, kQ⟩ := h
    rfl
  · obtain ⟨a, t, b, rfl, hS, kE, kQ⟩ := h
    refine ⟨_, (pss_one (ps_if (PW.pt (pw_or (pt_cmpR op_lt (pe_ix ix_tup (pv 0) pe_int (fun _ _ => rfl)) pe_int (nomark _)) (pw_or1 (pt_cmpR op_lt (pe_ix ix_tup (pv 0) pe_int (fun _ _ => rfl)) pe_int (nomark _))))) (pss_one (ps_raise rfl (takes_of rfl rfl rfl rfl) (pmk_own PySem.F.excBase_ValueError h_NoFraction.x h_NoFraction.g h_NoFraction.k (raises_own h_NoFraction.b h_NoFraction.t) rfl))) pss_nil)), ?_⟩
    refine ⟨_, rfl, a, _, 0, _, rfl, rfl, hS, atI_nat (j := 0) rfl, _, _, rfl, rfl, _, rfl, ite2 (fun c => ?_) (fun c => ?_)⟩
    · refine iteT ?_
      exact kE (.inl (of_decide_eq_true c))
    · have c0 : ¬ t < 0 := fun z => c (decide_eq_true z)
      refine ⟨_, rfl, a, _, 1, _, rfl, rfl, hS, atI_nat (j := 1) rfl, _, _, rfl, rfl, _, rfl, ite2 (fun c => ?_) (fun c => ?_)⟩
      · exact kE (.inr (of_decide_eq_true c))
      · exact kQ fun z => z.elim c0 fun z => c (decide_eq_true z)

abbrev s_common : Stmt := topS 6
abbrev N_common : List Str := ["one", "other", "rest"]
theorem sc_common : FnScope N_common ["one", "other"] (defScope s_common) := ⟨rfl, rfl, rfl, by decide +kernel, rfl, by decide +kernel, by decide +kernel⟩
def sp_common (K : PySem.W.Frag) (_ : ErrA) : Sp := fun vs H Q _ => ∃ x y : Int, vs = [.int x, .int y] ∧ 0 ≤ x ∧ 0 ≤ y ∧ Q (.int (gc x y)) H
theorem ok_common (D : Stands K mg "common" s_common) (B : Bi mg) (Er : ErrOk K mg e) : Keeps P w K mg base 1 "common" ["one", "other"] (sp_common K e) := by
  obtain ⟨f, fd, F, mF⟩ := D
  refine ⟨f, fd, ?_, F.binds (ps := ["one", "other"]) (fun _ _ _ _ _ _ us hl => match us, hl with | [_, _], _ => rfl), mF, F.kp⟩
  refine toX (F.ok sc_common (fun vs H Q E h => ?_) (fun cdv A outer s H vs Q E hr h => ?_))
  · obtain ⟨x, y, rfl, hx, hy, q⟩ := h
    rfl
  · obtain ⟨x, y, rfl, hx, hy, q⟩ := h
    refine ⟨_, (pss_cons (ps_while PassesOwn.never (pt_cmpR op_gt (pv 1) pe_int (nomark _)) (pss_cons (ps_set (i := 2) sc_common.nd rfl (Or.inl rfl) (pe_op op_mod (pv 0) (pv 1)))
      (pss_cons (ps_set (i := 0) sc_common.nd rfl (Or.inl rfl) (pv 1))
      (pss_one (ps_set (i := 1) sc_common.nd rfl (Or.inl rfl) (pv 2))))))
      (pss_one (ps_ret (pv 0)))), ?_⟩
    refine while_by (fun σ H' => H' = H ∧ ∃ (u v : Int) (r : Option V), σ = [some (.int u), some (.int v), r] ∧ 0 ≤ u ∧ 0 ≤ v ∧ gc u v = gc x y)
      (fun σ _ => match σ with | [_, some (.int v), _] => v.toNat | _ => 0) ⟨rfl, x, y, none, rfl, hx, hy, rfl⟩ ?_ ?_
    · rintro σ H' ⟨rfl, u, v, r, rfl, hu, hv, hg⟩
      refine ⟨_, rfl, _, _, rfl, rfl, _, rfl, ite2 (fun c => ?_) (fun c => ?_)⟩
      · have c := of_decide_eq_true c
        have m1 := Int.emod_nonneg u (b := v) (by omega)
        have m2 := Int.emod_lt_of_pos u c
        refine ⟨_, rfl, _, rfl, _, _, rfl, rfl, c, _, rfl, _, rfl, ⟨rfl, v, u % v, _, rfl, hv, m1, gc_step.trans hg⟩, ?_⟩
        show (u % v).toNat < v.toNat
        omega
      · have c : ¬ 0 < v := fun z => c (decide_eq_true z)
        have v0 : v = 0 := by omega
        subst v0
        rw [gc_zero hu] at hg
        refine ⟨_, rfl, ?_⟩
        rw [hg]
        exact q
    · rintro σ H' Q1 Q2 hq ⟨v, e1, i, j, e2, e3, k, e4, e5⟩
      exact ⟨v, e1, i, j, e2, e3, k, e4, hq _ _ e5⟩

abbrev s_lowest : Stmt := topS 7
abbrev N_lowest : List Str := ["fraction", "far"]
theorem sc_lowest : FnScope N_lowest ["fraction"] (defScope s_lowest) := ⟨rfl, rfl, rfl, by decide +kernel, rfl, by decide +kernel, by decide +kernel⟩
def sp_lowest (K : PySem.W.Frag) (e : ErrA) : Sp := fun vs H Q E => ∃ (a : Addr) (t b : Int), vs = [.ref a] ∧ SqT K H a [.int t, .int b] ∧ Sz 9000 b ∧ ((t < 0 ∨ b < 1) → E (.ref e.NoFraction) none H) ∧
  (¬ (t < 0 ∨ b < 1) → ∀ H' p, Same H H' → H p = none → H' p = some (.tup [.int (low t b).1, .int (low t b).2]) → Q (.ref p) H')
theorem ok_lowest (D : Stands K mg "lowest" s_lowest) (B : Bi mg) (Er : ErrOk K mg e)
    (h_see : Keeps P w K mg base 1 "see" ["fraction"] (sp_see K e))
    (h_common : Keeps P w K mg base 1 "common" ["one", "other"] (sp_common K e)) : Keeps P w K mg base 2 "lowest" ["fraction"] (sp_lowest K e) := by
  obtain ⟨f, fd, F, mF⟩ := D
  obtain ⟨f_see, fd_see, G_see, b_see, m_see, k_see⟩ := h_see
  obtain ⟨f_common, fd_common, G_common, b_common, m_common, k_common⟩ := h_common
  refine ⟨f, fd, ?_, F.binds (ps := ["fraction"]) (fun _ _ _ _ _ _ us hl => match us, hl with | [_], _ => rfl), mF, F.kp⟩
  refine F.okX sc_lowest (fun vs H Q E h => ?_) (fun cdv A outer s H vs Q E hr h => ?_)
  · obtain ⟨a, t, b, rfl, hS, hz, kE, kQ⟩ := h
    rfl
  · obtain ⟨a, t, b, rfl, hS, hz, kE, kQ⟩ := h
    refine ⟨_, (pss_cons (ps_expr (pe_call G_see (hr.mono (by decide)) (by rfl) m_see k_see b_see .nil (passes_call (E := E) (takes_of rfl rfl rfl rfl) (fun _ _ _ _ h => h)) (pa_cons (pv 0) pa_nil)))
      (pss_cons (ps_set (i := 1) sc_lowest.nd rfl (Or.inl rfl) (pe_call G_common (hr.mono (by decide)) (by rfl) m_common k_common b_common .nil passL (pa_cons (pe_ix ix_tup (pv 0) pe_int (fun _ _ => rfl)) (pa_cons (pe_ix ix_tup (pv 0) pe_int (fun _ _ => rfl)) pa_nil))))
      (pss_one (ps_ret (pe_tup (pa_cons (pe_op op_fdivP (pe_ix ix_tup (pv 0) pe_int (fun _ _ => rfl)) (pv 1)) (pa_cons (pe_op op_fdivP (pe_ix ix_tup (pv 0) pe_int (fun _ _ => rfl)) (pv 1)) pa_nil))))))), ?_⟩
    refine ⟨_, rfl, a, t, b, rfl, hS, fun c => kE c, fun c => ?_⟩
    have hb : 1 ≤ b := by omega
    have ht : 0 ≤ t := by omega
    have hf := gc_pos (t := t) hb
    have hfz : Sz 9000 (gc t b) := hz.le (by omega) (gc_le hb)
    refine ⟨_, rfl, a, _, 0, _, rfl, rfl, hS, atI_nat (j := 0) rfl, _, rfl, a, _, 1, _, rfl, rfl, hS, atI_nat (j := 1) rfl, t, b, rfl, ht, by omega, ?_⟩
    refine ⟨_, rfl, a, _, 0, _, rfl, rfl, hS, atI_nat (j := 0) rfl, _, rfl, _, _, rfl, rfl, hfz.cd hf, ?_⟩
    refine ⟨_, rfl, a, _, 1, _, rfl, rfl, hS, atI_nat (j := 1) rfl, _, rfl, _, _, rfl, rfl, hfz.cd hf, by show 2 ≤ sizeLine; decide, fun p hp => ?_⟩
    exact kQ c _ p (same_new hp) hp upd_same

abbrev s_less : Stmt := topS 8
abbrev N_less : List Str := ["one", "other"]
theorem sc_less : FnScope N_less ["one", "other"] (defScope s_less) := ⟨rfl, rfl, rfl, by decide +kernel, rfl, by decide +kernel, by decide +kernel⟩
def sp_less (K : PySem.W.Frag) (e : ErrA) : Sp := fun vs H Q E => ∃ (a c : Addr) (t b u d : Int), vs = [.ref a, .ref c] ∧ SqT K H a [.int t, .int b] ∧ SqT K H c [.int u, .int d] ∧ Sz 4400 t ∧ Sz 4400 b ∧ Sz 4400 u ∧ Sz 4400 d ∧
  ((t < 0 ∨ b < 1 ∨ u < 0 ∨ d < 1) → E (.ref e.NoFraction) none H) ∧ (0 ≤ t → 1 ≤ b → 0 ≤ u → 1 ≤ d → Q (.bl (decide (t * d < u * b))) H)
theorem ok_less (D : Stands K mg "less" s_less) (B : Bi mg) (Er : ErrOk K mg e)
    (h_see : Keeps P w K mg base 1 "see" ["fraction"] (sp_see K e)) : Keeps P w K mg base 2 "less" ["one", "other"] (sp_less K e) := by
  obtain ⟨f, fd, F, mF⟩ := D
  obtain ⟨f_see, fd_see, G_see, b_see, m_see, k_see⟩ := h_see
  refine ⟨f, fd, ?_, F.binds (ps := ["one", "other"]) (fun _ _ _ _ _ _ us hl => match us, hl with | [_, _], _ => rfl), mF, F.kp⟩
  refine F.okX sc_less (fun vs H Q E h => ?_) (fun cdv A outer s H vs Q E hr h => ?_)
  · obtain ⟨a, c, t, b, u, d, rfl, hA, hC, z1, z2, z3, z4, kE, kQ⟩ := h
    rfl
  · obtain ⟨a, c, t, b, u, d, rfl, hA, hC, z1, z2, z3, z4, kE, kQ⟩ := h
    refine ⟨_, (pss_cons (ps_expr (pe_call G_see (hr.mono (by decide)) (by rfl) m_see k_see b_see .nil (passes_call (E := E) (takes_of rfl rfl rfl rfl) (fun _ _ _ _ h => h)) (pa_cons (pv 0) pa_nil)))
      (pss_cons (ps_expr (pe_call G_see (hr.mono (by decide)) (by rfl) m_see k_see b_see .nil (passes_call (E := E) (takes_of rfl rfl rfl rfl) (fun _ _ _ _ h => h)) (pa_cons (pv 1) pa_nil)))
      (pss_one (ps_ret (pe_cmpR op_lt (pe_op op_mulW (pe_ix ix_tup (pv 0) pe_int (fun _ _ => rfl)) (pe_ix ix_tup (pv 1) pe_int (fun _ _ => rfl))) (pe_op op_mulW (pe_ix ix_tup (pv 1) pe_int (fun _ _ => rfl)) (pe_ix ix_tup (pv 0) pe_int (fun _ _ => rfl))) (nomark _)))))), ?_⟩
    refine ⟨_, rfl, a, t, b, rfl, hA, fun c => kE (by omega), fun c1 => ?_⟩
    refine ⟨_, rfl, c, u, d, rfl, hC, fun c => kE (by omega), fun c2 => ?_⟩
    refine ⟨_, rfl, a, _, 0, _, rfl, rfl, hA, atI_nat (j := 0) rfl, _, rfl, c, _, 1, _, rfl, rfl, hC, atI_nat (j := 1) rfl, _, _, rfl, rfl, z1.cm z4, ?_⟩
    refine ⟨_, rfl, c, _, 0, _, rfl, rfl, hC, atI_nat (j := 0) rfl, _, rfl, a, _, 1, _, rfl, rfl, hA, atI_nat (j := 1) rfl, _, _, rfl, rfl, z3.cm z2, _, _, rfl, rfl, ?_⟩
    exact kQ (by omega) (by omega) (by omega) (by omega)

abbrev s_taken : Stmt := topS 9
abbrev N_taken : List Str := ["one", "other"]
theorem sc_taken : FnScope N_taken ["one", "other"] (defScope s_taken) := ⟨rfl, rfl, rfl, by decide +kernel, rfl, by decide +kernel, by decide +kernel⟩
def sp_taken (K : PySem.W.Frag) (e : ErrA) : Sp := fun vs H Q E => ∃ (a c : Addr) (t b u d : Int), vs = [.ref a, .ref c] ∧ SqT K H a [.int t, .int b] ∧ SqT K H c [.int u, .int d] ∧ Sz 4400 t ∧ Sz 4400 b ∧ Sz 4400 u ∧ Sz 4400 d ∧
  ((t < 0 ∨ b < 1 ∨ u < 0 ∨ d < 1) → E (.ref e.NoFraction) none H) ∧ (0 ≤ t → 1 ≤ b → 0 ≤ u → 1 ≤ d → t * d < u * b → E (.ref e.NotBelow) none H) ∧
  (0 ≤ t → 1 ≤ b → 0 ≤ u → 1 ≤ d → u * b ≤ t * d → ∀ H' p, Same H H' → H p = none → H' p = some (.tup [.int (low (t * d - u * b) (b * d)).1, .int (low (t * d - u * b) (b * d)).2]) → Q (.ref p) H')
theorem ok_taken (D : Stands K mg "taken" s_taken) (B : Bi mg) (Er : ErrOk K mg e)
    (h_less : Keeps P w K mg base 2 "less" ["one", "other"] (sp_less K e))
    (h_lowest : Keeps P w K mg base 2 "lowest" ["fraction"] (sp_lowest K e)) : Keeps P w K mg base 3 "taken" ["one", "other"] (sp_taken K e) := by
  obtain ⟨f, fd, F, mF⟩ := D
  obtain ⟨f_less, fd_less, G_less, b_less, m_less, k_less⟩ := h_less
  obtain ⟨f_lowest, fd_lowest, G_lowest, b_lowest, m_lowest, k_lowest⟩ := h_lowest
  have h_NotBelow := Er.NotBelow
  refine ⟨f, fd, ?_, F.binds (ps := ["one", "other"]) (fun _ _ _ _ _ _ us hl => match us, hl with | [_, _], _ => rfl), mF, F.kp⟩
  refine F.okX sc_taken (fun vs H Q E h => ?_) (fun cdv A outer s H vs Q E hr h => ?_)
  · obtain ⟨a, c, t, b, u, d, rfl, hA, hC, z1, z2, z3, z4, kE, kB, kQ⟩ := h
    rfl
  · obtain ⟨a, c, t, b, u, d, rfl, hA, hC, z1, z2, z3, z4, kE, kB, kQ⟩ := h
    refine ⟨_, (pss_cons (ps_if (pt_val (pe_call G_less (hr.mono (by decide)) (by rfl) m_less k_less b_less .nil (passes_call (E := E) (takes_of rfl rfl rfl rfl) (fun _ _ _ _ h => h)) (pa_cons (pv 0) (pa_cons (pv 1) pa_nil)))) (pss_one (ps_raise rfl (takes_of rfl rfl rfl rfl) (pmk_own PySem.F.excBase_ValueError h_NotBelow.x h_NotBelow.g h_NotBelow.k (raises_own h_NotBelow.b h_NotBelow.t) rfl))) pss_nil)
      (pss_one (ps_ret (pe_call G_lowest (hr.mono (by decide)) (by rfl) m_lowest k_lowest b_lowest .nil (passes_call (E := E) (takes_of rfl rfl rfl rfl) (fun _ _ _ _ h => h)) (pa_cons (pe_tup (pa_cons (pe_op op_sub (pe_op op_mulW (pe_ix ix_tup (pv 0) pe_int (fun _ _ => rfl)) (pe_ix ix_tup (pv 1) pe_int (fun _ _ => rfl))) (pe_op op_mulW (pe_ix ix_tup (pv 1) pe_int (fun _ _ => rfl)) (pe_ix ix_tup (pv 0) pe_int (fun _ _ => rfl)))) (pa_cons (pe_op op_mulW (pe_ix ix_tup (pv 0) pe_int (fun _ _ => rfl)) (pe_ix ix_tup (pv 1) pe_int (fun _ _ => rfl))) pa_nil))) pa_nil))))), ?_⟩
    refine ⟨_, rfl, _, rfl, a, c, t, b, u, d, rfl, hA, hC, z1, z2, z3, z4, kE, fun h1 h2 h3 h4 => ⟨_, rfl, ite2 (fun c => ?_) (fun c => ?_)⟩⟩
    · exact kB h1 h2 h3 h4 (of_decide_eq_true c)
    · have c0 : u * b ≤ t * d := by
        have : ¬ t * d < u * b := fun z => c (decide_eq_true z)
        omega
      have bd : 1 ≤ b * d := Int.mul_pos (by omega) (by omega)
      refine ⟨_, rfl, a, _, 0, _, rfl, rfl, hA, atI_nat (j := 0) rfl, _, rfl, _, _, 1, _, rfl, rfl, hC, atI_nat (j := 1) rfl, _, _, rfl, rfl, z1.cm z4, ?_⟩
      refine ⟨_, rfl, _, _, 0, _, rfl, rfl, hC, atI_nat (j := 0) rfl, _, rfl, a, _, 1, _, rfl, rfl, hA, atI_nat (j := 1) rfl, _, _, rfl, rfl, z3.cm z2, _, _, rfl, rfl, ?_⟩
      refine ⟨_, rfl, a, _, 1, _, rfl, rfl, hA, atI_nat (j := 1) rfl, _, rfl, _, _, 1, _, rfl, rfl, hC, atI_nat (j := 1) rfl, _, _, rfl, rfl, z2.cm z4, by show 2 ≤ sizeLine; decide, fun p hp => ?_⟩
      refine ⟨p, _, _, rfl, SqT.of upd_same, (z2.mul z4).mono, fun c => absurd c (by omega), fun _ H' r s hr e => ?_⟩
      exact kQ h1 h2 h3 h4 c0 H' r ((same_new hp).trans s) ((same_new hp).free hr) e

abbrev s_see_below : Stmt := topS 10
abbrev N_see_below : List Str := ["fraction"]
theorem sc_see_below : FnScope N_see_below ["fraction"] (defScope s_see_below) := ⟨rfl, rfl, rfl, by decide +kernel, rfl, by decide +kernel, by decide +kernel⟩
def sp_see_below (K : PySem.W.Frag) (e : ErrA) : Sp := fun vs H Q E => ∃ (a : Addr) (t b : Int), vs = [.ref a] ∧ SqT K H a [.int t, .int b] ∧ ((t < 0 ∨ b < 1) → E (.ref e.NoFraction) none H) ∧
  (0 ≤ t → 1 ≤ b → (t < 1 ∨ b ≤ t) → E (.ref e.NotBelow) none H) ∧ (1 ≤ t → t < b → Q .non H)
theorem ok_see_below (D : Stands K mg "see_below" s_see_below) (B : Bi mg) (Er : ErrOk K mg e)
    (h_see : Keeps P w K mg base 1 "see" ["fraction"] (sp_see K e)) : Keeps P w K mg base 2 "see_below" ["fraction"] (sp_see_below K e) := by
  obtain ⟨f, fd, F, mF⟩ := D
  obtain ⟨f_see, fd_see, G_see, b_see, m_see, k_see⟩ := h_see
  have h_NotBelow := Er.NotBelow
  refine ⟨f, fd, ?_, F.binds (ps := ["fraction"]) (fun _ _ _ _ _ _ us hl => match us, hl with | [_], _ => rfl), mF, F.kp⟩
  refine F.okX sc_see_below (fun vs H Q E h => ?_) (fun cdv A outer s H vs Q E hr h => ?_)
  · obtain ⟨a, t, b, rfl, hS, kE, kB, kQ⟩ := h
    rfl
  · obtain ⟨a, t, b, rfl, hS, kE, kB, kQ⟩ := h
    refine ⟨_, (pss_cons (ps_expr (pe_call G_see (hr.mono (by decide)) (by rfl) m_see k_see b_see .nil (passes_call (E := E) (takes_of rfl rfl rfl rfl) (fun _ _ _ _ h => h)) (pa_cons (pv 0) pa_nil)))
      (pss_one (ps_if (PW.pt (pw_or (pt_cmpR op_lt (pe_ix ix_tup (pv 0) pe_int (fun _ _ => rfl)) pe_int (nomark _)) (pw_or1 (pt_cmpR op_ge (pe_ix ix_tup (pv 0) pe_int (fun _ _ => rfl)) (pe_ix ix_tup (pv 0) pe_int (fun _ _ => rfl)) (nomark _))))) (pss_one (ps_raise rfl (takes_of rfl rfl rfl rfl) (pmk_own PySem.F.excBase_ValueError h_NotBelow.x h_NotBelow.g h_NotBelow.k (raises_own h_NotBelow.b h_NotBelow.t) rfl))) pss_nil))), ?_⟩
    refine ⟨_, rfl, a, t, b, rfl, hS, kE, fun g => ?_⟩
    have h0 : 0 ≤ t := by omega
    have hb : 1 ≤ b := by omega
    refine ⟨_, rfl, a, _, 0, _, rfl, rfl, hS, atI_nat (j := 0) rfl, _, _, rfl, rfl, _, rfl, ite2 (fun c => ?_) (fun c => ?_)⟩
    · refine iteT ?_
      exact kB h0 hb (.inl (of_decide_eq_true c))
    · have c0 : ¬ t < 1 := fun z => c (decide_eq_true z)
      refine ⟨_, rfl, a, _, 0, _, rfl, rfl, hS, atI_nat (j := 0) rfl, _, rfl, a, _, 1, _, rfl, rfl, hS, atI_nat (j := 1) rfl, _, _, rfl, rfl, _, rfl, ite2 (fun c => ?_) (fun c => ?_)⟩
      · exact kB h0 hb (.inr (of_decide_eq_true c))
      · have c1 : ¬ b ≤ t := fun z => c (decide_eq_true z)
        exact kQ (by omega) (by omega)

abbrev s_up : Stmt := topS 12
abbrev N_up : List Str := ["top", "bottom"]
theorem sc_up : FnScope N_up ["top", "bottom"] (defScope s_up) := ⟨rfl, rfl, rfl, by decide +kernel, rfl, by decide +kernel, by decide +kernel⟩
def sp_up (K : PySem.W.Frag) (_ : ErrA) : Sp := fun vs H Q _ => ∃ t b : Int, vs = [.int t, .int b] ∧ 1 ≤ b ∧ Sz 9000 b ∧ Q (.int (upF t b)) H
theorem ok_up (D : Stands K mg "up" s_up) (B : Bi mg) (Er : ErrOk K mg e) : Keeps P w K mg base 1 "up" ["top", "bottom"] (sp_up K e) := by
  obtain ⟨f, fd, F, mF⟩ := D
  refine ⟨f, fd, ?_, F.binds (ps := ["top", "bottom"]) (fun _ _ _ _ _ _ us hl => match us, hl with | [_, _], _ => rfl), mF, F.kp⟩
  refine toX (F.ok sc_up (fun vs H Q E h => ?_) (fun cdv A outer s H vs Q E hr h => ?_))
  · obtain ⟨t, b, rfl, hb, hz, q⟩ := h
    rfl
  · obtain ⟨t, b, rfl, hb, hz, q⟩ := h
    refine ⟨_, (pss_one (ps_ret (pe_op op_fdivP (pe_op op_sub (pe_op op_add (pv 0) (pv 1)) pe_int) (pv 1)))), ?_⟩
    exact ⟨_, rfl, _, rfl, _, _, rfl, rfl, _, _, rfl, rfl, _, rfl, _, _, rfl, rfl, hz.cd (by omega), q⟩

abbrev s_rising_factors : Stmt := topS 13
abbrev N_rising_factors : List Str := ["fraction", "left", "found", "number"]
theorem sc_rising_factors : FnScope N_rising_factors ["fraction"] (defScope s_rising_factors) := ⟨rfl, rfl, rfl, by decide +kernel, rfl, by decide +kernel, by decide +kernel⟩
theorem left_mono {tb : TE} {i j : Int} {K : PySem.W.Frag} {n : Nat} (σ : L2.St) (H : Hp) (Q Q' : Bool → Hp → Prop) (hq : ∀ b H1, Q b H1 → Q' b H1) (h : tTest (tOp (rI0 fun i j => .bl (decide (j < i))) (tOp (rIxT K) (tVar n) (tC (.int i))) (tC (.int j))) σ H Q) :
    tTest (tOp (rI0 fun i j => .bl (decide (j < i))) (tOp (rIxT K) (tVar n) (tC (.int i))) (tC (.int j))) σ H Q' := by
  obtain ⟨v, e1, p, xs, i, x, h1, h2, h3, h4, i', j', h5, h6, k, h7, h8⟩ := h
  exact ⟨v, e1, p, xs, i, x, h1, h2, h3, h4, i', j', h5, h6, k, h7, hq _ _ h8⟩
def sp_rising_factors (K : PySem.W.Frag) (e : ErrA) : Sp := fun vs H Q E => ∃ (a : Addr) (t b : Int), vs = [.ref a] ∧ SqT K H a [.int t, .int b] ∧ b ≤ 1000000 ∧ ((t < 0 ∨ b < 1) → E (.ref e.NoFraction) none H) ∧
  (0 ≤ t → 1 ≤ b → (t < 1 ∨ b ≤ t) → E (.ref e.NotBelow) none H) ∧ (1 ≤ t → t < b → ∀ H' p, Same H H' → H p = none → H' p = some (.lst ((rfs t b).map V.int)) → Q (.ref p) H')
theorem ok_rising_factors (D : Stands K mg "rising_factors" s_rising_factors) (B : Bi mg) (Er : ErrOk K mg e)
    (h_see_below : Keeps P w K mg base 2 "see_below" ["fraction"] (sp_see_below K e))
    (h_lowest : Keeps P w K mg base 2 "lowest" ["fraction"] (sp_lowest K e))
    (h_up : Keeps P w K mg base 1 "up" ["top", "bottom"] (sp_up K e))
    (h_taken : Keeps P w K mg base 3 "taken" ["one", "other"] (sp_taken K e)) : Keeps P w K mg base 4 "rising_factors" ["fraction"] (sp_rising_factors K e) := by
  obtain ⟨f, fd, F, mF⟩ := D
  obtain ⟨f_see_below, fd_see_below, G_see_below, b_see_below, m_see_below, k_see_below⟩ := h_see_below
  obtain ⟨f_lowest, fd_lowest, G_lowest, b_lowest, m_lowest, k_lowest⟩ := h_lowest
  obtain ⟨f_up, fd_up, G_up, b_up, m_up, k_up⟩ := h_up
  obtain ⟨f_taken, fd_taken, G_taken, b_taken, m_taken, k_taken⟩ := h_taken
  refine ⟨f, fd, ?_, F.binds (ps := ["fraction"]) (fun _ _ _ _ _ _ us hl => match us, hl with | [_], _ => rfl), mF, F.kp⟩
  refine F.okX sc_rising_factors (fun vs H Q E h => ?_) (fun cdv A outer s H vs Q E hr h => ?_)
  · obtain ⟨a, t, b, rfl, hS, hb0, kE, kB, kQ⟩ := h
    rfl
  · obtain ⟨a, t, b, rfl, hS, hb0, kE, kB, kQ⟩ := h
    refine ⟨_, (pss_cons (ps_expr (pe_call G_see_below (hr.mono (by decide)) (by rfl) m_see_below k_see_below b_see_below .nil (passes_call (E := E) (takes_of rfl rfl rfl rfl) (fun _ _ _ _ h => h)) (pa_cons (pv 0) pa_nil)))
      (pss_cons (ps_set (i := 1) sc_rising_factors.nd rfl (Or.inl rfl) (pe_call G_lowest (hr.mono (by decide)) (by rfl) m_lowest k_lowest b_lowest .nil (passes_call (E := E) (takes_of rfl rfl rfl rfl) (fun _ _ _ _ h => h)) (pa_cons (pv 0) pa_nil)))
      (pss_cons (ps_set (i := 2) sc_rising_factors.nd rfl (Or.inl rfl) (pe_lst pa_nil))
      (pss_cons (ps_while (passes_of rfl) (pt_cmpR op_gt (pe_ix ix_tup (pv 1) pe_int (fun _ _ => rfl)) pe_int (nomark _)) (pss_cons (ps_set (i := 3) sc_rising_factors.nd rfl (Or.inl rfl) (pe_call G_up (hr.mono (by decide)) (by rfl) m_up k_up b_up .nil passL (pa_cons (pe_ix ix_tup (pv 1) pe_int (fun _ _ => rfl)) (pa_cons (pe_ix ix_tup (pv 1) pe_int (fun _ _ => rfl)) pa_nil))))
      (pss_cons (ps_expr (pe_bm PySem.F.plainAttrs_list PySem.F.slot_list_append PySem.F.type_list_append mt_append (pv 2) (pa_cons (pv 3) pa_nil)))
      (pss_one (ps_set (i := 1) sc_rising_factors.nd rfl (Or.inl rfl) (pe_call G_taken (hr.mono (by decide)) (by rfl) m_taken k_taken b_taken .nil (passes_call (E := E) (takes_of rfl rfl rfl rfl) (fun _ _ _ _ h => h)) (pa_cons (pe_tup (pa_cons (pe_op op_mulW (pe_ix ix_tup (pv 1) pe_int (fun _ _ => rfl)) (pv 3)) (pa_cons (pe_ix ix_tup (pv 1) pe_int (fun _ _ => rfl)) pa_nil))) (pa_cons (pe_tup (pa_cons pe_int (pa_cons pe_int pa_nil))) pa_nil))))))))
      (pss_one (ps_ret (pv 2))))))), ?_⟩
    refine ⟨_, rfl, a, t, b, rfl, hS, kE, kB, fun g1 g2 => ?_⟩
    have hz : Sz 1000 b := Sz.mono (a := 20) (by show b.natAbs < 1048576; omega)
    refine ⟨_, rfl, a, t, b, rfl, hS, hz.mono, fun z => absurd z (by omega), fun _ H1 p s1 np ep => ?_⟩
    refine ⟨Nat.zero_le _, fun L hL => ?_⟩
    have b1 : 1 ≤ b := by omega
    have c0 := low_cross t b
    have l1 := low_bpos (t := t) b1
    have l2 := low_tnn (t := t) b1 (by omega)
    have l3 := low_ble (t := t) b1
    have l4 : (low t b).1 < (low t b).2 := by
      refine Int.lt_of_mul_lt_mul_right (a := b) ?_ (by omega)
      rw [← c0, Int.mul_comm]
      exact Int.mul_lt_mul_of_pos_left g2 (by omega)
    have eq0 : rfs (low t b).1 (low t b).2 = rfs t b := (rfs_rel b1 l1 t _ (by omega) l2 c0).symm
    have sL := same_mut (o := .lst []) s1 (s1.free hL)
    refine while_by (fun σ H' => Same H H' ∧ ∃ (q : Addr) (u v : Int) (acc : List Int) (x : Option V), σ = [some (.ref a), some (.ref q), some (.ref L), x] ∧ H' q = some (.tup [.int u, .int v]) ∧ H' L = some (.lst (acc.map V.int)) ∧
        0 ≤ u ∧ u < v ∧ v ≤ b ∧ acc ++ rfs u v = rfs t b ∧ (acc.length : Int) + u ≤ b)
      (fun σ H' => match σ with | [_, some (.ref q), _, _] => (match H' q with | some (.tup [.int u, _]) => u.toNat | _ => 0) | _ => 0) ?_ ?_ (left_mono (tb := tVar 0))
    · have := low_tle (b := b) (by omega : 0 ≤ t)
      exact ⟨sL, p, _, _, [], none, rfl, same_new hL _ _ ep, upd_same, l2, l4, l3, by rw [List.nil_append, eq0], by show (0 : Int) + _ ≤ b; omega⟩
    · rintro σ H2 ⟨s2, q, u, v, acc, x, rfl, eq, eL, u0, uv, vb, er, al⟩
      refine ⟨_, rfl, q, _, 0, _, rfl, rfl, SqT.of eq, atI_nat (j := 0) rfl, _, _, rfl, rfl, _, rfl, ite2 (fun c => ?_) (fun c => ?_)⟩
      · have c : 0 < u := of_decide_eq_true c
        have zv : Sz 1000 v := hz.le (by omega) vb
        have zu : Sz 1000 u := zv.le u0 (by omega)
        have n1 := upF_pos (B := v) (T := u) (by omega) (by omega)
        have n2 := upF_le (B := v) (T := u) (by omega) (by omega)
        have zn : Sz 1000 (upF v u) := zv.le (by omega) n2
        have hi := upF_hi (B := v) (T := u) (by omega)
        refine ⟨_, rfl, q, _, 1, _, rfl, rfl, SqT.of eq, atI_nat (j := 1) rfl, _, rfl, q, _, 0, _, rfl, rfl, SqT.of eq, atI_nat (j := 0) rfl, v, u, rfl, by omega, zu.mono, ?_⟩
        refine ⟨_, rfl, .inl ⟨rfl, _, SqL.of eL⟩, _, rfl, L, _, _, rfl, rfl, eL, by
          rw [List.length_map]
          refine szl_lt ?_
          omega, ?_⟩
        have qL : q ≠ L := ne_of eq eL (fun z => by cases z)
        have eq' : (upd H2 L (.lst (acc.map V.int ++ [.int (upF v u)]))) q = some (.tup [.int u, .int v]) := by
          rw [upd_ne qL]
          exact eq
        have eL' : (upd H2 L (.lst (acc.map V.int ++ [.int (upF v u)]))) L = some (.lst ((acc ++ [upF v u]).map V.int)) := by
          rw [upd_same, List.map_append] <;> rfl
        have s3 := same_mut (o := .lst (acc.map V.int ++ [.int (upF v u)])) s2 (s1.free hL)
        generalize (upd H2 L (.lst (acc.map V.int ++ [.int (upF v u)]))) = H3 at eq' eL' s3
        refine ⟨_, rfl, q, _, 0, _, rfl, rfl, SqT.of eq', atI_nat (j := 0) rfl, _, rfl, _, _, rfl, rfl, zu.cm zn, _, rfl, q, _, 1, _, rfl, rfl, SqT.of eq', atI_nat (j := 1) rfl, by show 2 ≤ sizeLine; decide, fun f nf => ?_⟩
        have s4 := same_new (o := .tup [.int (u * upF v u), .int v]) nf
        refine ⟨by show 2 ≤ sizeLine; decide, fun o no => ?_⟩
        have s5 := same_new (o := .tup [.int 1, .int 1]) no
        have un : 0 ≤ u * upF v u := Int.mul_nonneg u0 (by omega)
        refine ⟨f, o, u * upF v u, v, 1, 1, rfl, SqT.of (s5 _ _ upd_same), SqT.of upd_same, (zu.mul zn).mono, zv.mono, Sz.one, Sz.one, fun z => absurd z (by omega), fun _ _ _ _ z => absurd z (by rw [Int.mul_comm] at hi; omega), fun _ _ _ _ z H6 r s6 nr er6 => ?_⟩
        have s46 := (s4.trans s5).trans s6
        have e1 : u * upF v u * 1 - 1 * v = nxt u v := by
          unfold nxt
          omega
        have e2 : v * 1 = v := Int.mul_one v
        rw [e1, e2] at er6
        have nn := nxt_nn (B := v) (T := u) (by omega)
        have nl := nxt_lt (B := v) (T := u) (by omega)
        have v1 : 1 ≤ v := by omega
        have k1 := low_tnn (t := nxt u v) v1 nn
        have k2 := low_bpos (t := nxt u v) v1
        have k3 := low_ble (t := nxt u v) v1
        have k4 := low_tle (b := v) nn
        have kc := low_cross (nxt u v) v
        have k5 : (low (nxt u v) v).1 < (low (nxt u v) v).2 := by
          refine Int.lt_of_mul_lt_mul_right (a := v) ?_ (by omega)
          rw [← kc, Int.mul_comm]
          exact Int.mul_lt_mul_of_pos_left (by omega) (by omega)
        refine ⟨⟨s3.trans s46, r, _, _, acc ++ [upF v u], _, rfl, er6, s46 _ _ eL', k1, k5, by omega, ?_, ?_⟩, ?_⟩
        · rw [← rfs_rel v1 k2 (nxt u v) _ nn k1 kc, List.append_assoc, List.singleton_append, ← rfs_cons (by omega)]
          exact er
        · rw [List.length_append, List.length_singleton]
          omega
        · show (match H6 r with | some (.tup [.int u, _]) => u.toNat | _ => 0) < (match H2 q with | some (.tup [.int u, _]) => u.toNat | _ => 0)
          rw [er6, eq]
          show (low (nxt u v) v).1.toNat < u.toNat
          omega
      · have c : ¬ 0 < u := fun z => c (decide_eq_true z)
        rw [rfs_nil (by omega), List.append_nil] at er
        rw [er] at eL
        exact ⟨_, rfl, kQ g1 g2 H2 L s2 (s1.free hL) eL⟩

abbrev s_rising : Stmt := topS 14
abbrev N_rising : List Str := ["fraction", "found", "share", "number"]
theorem sc_rising : FnScope N_rising ["fraction"] (defScope s_rising) := ⟨rfl, rfl, rfl, by decide +kernel, rfl, by decide +kernel, by decide +kernel⟩
theorem foldl_mul (l : List Int) (n : Int) : (l ++ [n]).foldl (· * ·) 1 = l.foldl (· * ·) 1 * n := by
  rw [List.foldl_append] <;> rfl
/-- products of small numbers: their size -/
theorem foldl_sz (xs : List Int) : (∀ n ∈ xs, 1 ≤ n ∧ Sz 20 n) → 1 ≤ xs.foldl (· * ·) 1 ∧ Sz (20 * xs.length + 1) (xs.foldl (· * ·) 1) := by
  refine snoc_ind (fun xs => (∀ n ∈ xs, 1 ≤ n ∧ Sz 20 n) → 1 ≤ xs.foldl (· * ·) 1 ∧ Sz (20 * xs.length + 1) (xs.foldl (· * ·) 1)) xs (fun _ => ⟨by decide, Sz.one⟩) (fun l x ih h => ?_)
  obtain ⟨h1, h2⟩ := ih fun y hy => h y (List.mem_append_left _ hy)
  obtain ⟨x1, x2⟩ := h x (List.mem_append_right _ List.mem_cons_self)
  rw [foldl_mul, List.length_append]
  exact ⟨Int.mul_pos (by omega) (by omega), (h2.mul x2).mono (by show 20 * l.length + 1 + 20 ≤ 20 * (l.length + 1) + 1; omega)⟩
def sp_rising (K : PySem.W.Frag) (e : ErrA) : Sp := fun vs H Q E => ∃ (a : Addr) (t b : Int), vs = [.ref a] ∧ SqT K H a [.int t, .int b] ∧ b ≤ 10000 ∧ ((t < 0 ∨ b < 1) → ∀ H', Same H H' → E (.ref e.NoFraction) none H') ∧
  (0 ≤ t → 1 ≤ b → (t < 1 ∨ b ≤ t) → ∀ H', Same H H' → E (.ref e.NotBelow) none H') ∧ (1 ≤ t → t < b → ∀ H' p, Same H H' → H p = none → H' p = some (.lst ((prodsF 1 (rfs t b)).map V.int)) → Q (.ref p) H')
theorem ok_rising (D : Stands K mg "rising" s_rising) (B : Bi mg) (Er : ErrOk K mg e)
    (h_rising_factors : Keeps P w K mg base 4 "rising_factors" ["fraction"] (sp_rising_factors K e)) : Keeps P w K mg base 5 "rising" ["fraction"] (sp_rising K e) := by
  obtain ⟨f, fd, F, mF⟩ := D
  obtain ⟨f_rising_factors, fd_rising_factors, G_rising_factors, b_rising_factors, m_rising_factors, k_rising_factors⟩ := h_rising_factors
  refine ⟨f, fd, ?_, F.binds (ps := ["fraction"]) (fun _ _ _ _ _ _ us hl => match us, hl with | [_], _ => rfl), mF, F.kp⟩
  refine F.okX sc_rising (fun vs H Q E h => ?_) (fun cdv A outer s H vs Q E hr h => ?_)
  · obtain ⟨a, t, b, rfl, hS, hb0, kE, kB, kQ⟩ := h
    rfl
  · obtain ⟨a, t, b, rfl, hS, hb0, kE, kB, kQ⟩ := h
    refine ⟨_, (pss_cons (ps_set (i := 1) sc_rising.nd rfl (Or.inl rfl) (pe_lst pa_nil))
      (pss_cons (ps_set (i := 2) sc_rising.nd rfl (Or.inl rfl) pe_int)
      (pss_cons (ps_for (passes_of rfl) rfl (pi_list (pe_call G_rising_factors (hr.mono (by decide)) (by rfl) m_rising_factors k_rising_factors b_rising_factors .nil (passes_call (E := E) (takes_of rfl rfl rfl rfl) (fun _ _ _ _ h => h)) (pa_cons (pv 0) pa_nil))) (pg_name (i := 3) sc_rising.nd rfl (Or.inl rfl)) (pss_cons (ps_set (i := 2) sc_rising.nd rfl (Or.inl rfl) (pe_op op_mulW (pv 2) (pv 3)))
      (pss_one (ps_expr (pe_bm PySem.F.plainAttrs_list PySem.F.slot_list_append PySem.F.type_list_append mt_append (pv 1) (pa_cons (pv 2) pa_nil))))))
      (pss_one (ps_ret (pv 1)))))), ?_⟩
    refine ⟨Nat.zero_le _, fun L hL => ?_⟩
    have sL := same_new (o := .lst []) hL
    have eL : (upd H L (.lst [])) L = some (.lst []) := upd_same
    refine ⟨_, rfl, a, t, b, rfl, same_tup sL hS, by omega, fun c => kE c _ sL, fun c1 c2 c3 => kB c1 c2 c3 _ sL, fun g1 g2 H1 p s1 np ep => ?_⟩
    have e1 := s1 _ _ eL
    have pL : L ≠ p := ne_of_none eL np
    have sH := sL.trans s1
    have lw := rfs_low (B := b) (by omega) t g2
    have ll := rfs_len (B := b) t (by omega)
    generalize rfs t b = xs at *
    refine ⟨p, rfl, ⟨_, SqL.of ep⟩, for_list (K := K) (a := p) (xs := xs.map V.int) (fun i σ H' => Same H H' ∧ H' p = some (.lst (xs.map V.int)) ∧ H' L = some (.lst ((prodsF 1 (xs.take i)).map V.int)) ∧
      ∃ v : Option V, σ = [some (.ref a), some (.ref L), some (.int ((xs.take i).foldl (· * ·) 1)), v]) ⟨sH, ep, e1, none, rfl⟩ (fun i σ H' _ h => SqL.of h.2.1) ?_ ?_⟩
    · rintro i y σ H2 hy ⟨s2, ep2, eL2, v, rfl⟩
      obtain ⟨n, en, rfl⟩ := of_get_map hy
      have hn := lw.1 n (List.mem_of_getElem? en)
      obtain ⟨f1, f2⟩ := foldl_sz (xs.take i) fun m hm => by
        have := lw.1 m (List.mem_of_mem_take hm)
        exact ⟨by omega, by show m.natAbs < 1048576; omega⟩
      have f3 : Sz 200021 ((xs.take i).foldl (· * ·) 1) := f2.mono (by rw [List.length_take]; omega)
      have zn : Sz 20 n := by
        show n.natAbs < 1048576
        omega
      refine ⟨_, rfl, _, rfl, _, _, rfl, rfl, f3.cm zn, ?_⟩
      refine ⟨_, rfl, .inl ⟨rfl, _, SqL.of eL2⟩, _, rfl, L, _, _, rfl, rfl, eL2, by
        rw [List.length_map, prodsF_len, List.length_take]
        exact szl_lt (by omega), same_mut s2 hL, ?_, ?_, some (.int n), ?_⟩
      · rw [upd_ne pL.symm]
        exact ep2
      · rw [upd_same, take_snoc en, prodsF_snoc, List.map_append, Int.one_mul]
        exact rfl
      · rw [take_snoc en, foldl_mul]
        exact rfl
    · rintro σ H2 ⟨s2, ep2, eL2, v, rfl⟩
      rw [List.length_map, List.take_length] at eL2
      exact ⟨_, rfl, kQ g1 g2 H2 L s2 hL eL2⟩

abbrev s_law_cell_at : Stmt := topS 16
abbrev N_law_cell_at : List Str := ["script", "k"]
theorem sc_law_cell_at : FnScope N_law_cell_at ["script", "k"] (defScope s_law_cell_at) := ⟨rfl, rfl, rfl, by decide +kernel, rfl, by decide +kernel, by decide +kernel⟩
/-- script[k], nought beyond the end -/
def cell (ns : List Int) (k : Nat) : Int := ns.getD k 0
theorem cell_arg {a : Addr} {x : Int} {k : Nat} (h : x = k) : [V.ref a, V.int x] = [V.ref a, V.int (k : Int)] := by rw [h]
def sp_law_cell_at (K : PySem.W.Frag) (_ : ErrA) : Sp := fun vs H Q _ => ∃ (a : Addr) (ns : List Int) (k : Nat), vs = [.ref a, .int k] ∧ SqL K H a (ns.map V.int) ∧ ns.length ≤ 63 ∧ Q (.int (cell ns k)) H
theorem ok_law_cell_at (D : Stands K mg "_law_cell_at" s_law_cell_at) (B : Bi mg) (Er : ErrOk K mg e) : Keeps P w K mg base 1 "_law_cell_at" ["script", "k"] (sp_law_cell_at K e) := by
  obtain ⟨f, fd, F, mF⟩ := D
  refine ⟨f, fd, ?_, F.binds (ps := ["script", "k"]) (fun _ _ _ _ _ _ us hl => match us, hl with | [_, _], _ => rfl), mF, F.kp⟩
  refine toX (F.ok sc_law_cell_at (fun vs H Q E h => ?_) (fun cdv A outer s H vs Q E hr h => ?_))
  · obtain ⟨a, ns, k, rfl, hS, hk, q⟩ := h
    rfl
  · obtain ⟨a, ns, k, rfl, hS, hk, q⟩ := h
    refine ⟨_, (pss_cons (ps_if (pt_cmpR op_lt (pv 1) (pe_callB call_len_seq (by rfl) B.len (by decide +kernel) (pa_cons (pv 0) pa_nil)) (nomark _)) (pss_one (ps_ret (pe_ix ix_list (pv 0) (pv 1) (fun _ _ => rfl)))) pss_nil)
      (pss_one (ps_ret pe_int))), ?_⟩
    refine ⟨_, rfl, _, rfl, a, _, rfl, .inl hS, _, _, rfl, rfl, _, rfl, ite2 (fun c => ?_) (fun c => ?_)⟩
    · have c := of_decide_eq_true c
      rw [List.length_map] at c
      have hl : k < ns.length := by omega
      have g : ns[k]? = some (cell ns k) := by
        unfold cell
        rw [List.getD_eq_getElem?_getD, List.getElem?_eq_getElem hl] <;> rfl
      exact ⟨_, rfl, _, rfl, a, _, _, _, rfl, rfl, hS, atI_nat (get_map g), q⟩
    · have z : cell ns k = 0 := by
        unfold cell
        rw [List.getD_eq_getElem?_getD, List.getElem?_eq_none] <;> first | rfl | skip
        have c : ¬ ((k : Int) < ((ns.map V.int).length : Int)) := fun z => c (decide_eq_true z)
        rw [List.length_map] at c
        omega
      rw [z] at q
      exact q

abbrev s_law_whole : Stmt := topS 17
abbrev N_law_whole : List Str := ["found"]
theorem sc_law_whole : FnScope N_law_whole ["found"] (defScope s_law_whole) := ⟨rfl, rfl, rfl, by decide +kernel, rfl, by decide +kernel, by decide +kernel⟩
def sp_law_whole (K : PySem.W.Frag) (_ : ErrA) : Sp := fun vs H Q _ => ∃ i : Int, vs = [.int i] ∧ Q (.bl true) H
theorem ok_law_whole (D : Stands K mg "_law_whole" s_law_whole) (B : Bi mg) (Er : ErrOk K mg e) : Keeps P w K mg base 1 "_law_whole" ["found"] (sp_law_whole K e) := by
  obtain ⟨f, fd, F, mF⟩ := D
  refine ⟨f, fd, ?_, F.binds (ps := ["found"]) (fun _ _ _ _ _ _ us hl => match us, hl with | [_], _ => rfl), mF, F.kp⟩
  refine toX (F.ok sc_law_whole (fun vs H Q E h => ?_) (fun cdv A outer s H vs Q E hr h => ?_))
  · obtain ⟨i, rfl, q⟩ := h
    rfl
  · obtain ⟨i, rfl, q⟩ := h
    refine ⟨_, (pss_one (ps_ret (pe_and (pe_callB call_isi (by rfl) B.isinstance (by decide +kernel) (pa_cons (pv 0) (pa_cons (pe_bltn (v := .ty "int") (by rfl) B.int (by decide +kernel) rfl) pa_nil))) (pe_one (pe_not (pe_callB call_isi (by rfl) B.isinstance (by decide +kernel) (pa_cons (pv 0) (pa_cons (pe_bltn (v := .ty "bool") (by rfl) B.bool (by decide +kernel) rfl) pa_nil)))))))), ?_⟩
    refine ⟨_, rfl, _, _, _, _, true, rfl, .ty "int", .base (.int i), kit_ty (by decide +kernel), true, rfl, iteT ?_⟩
    exact ⟨_, rfl, _, _, _, _, false, rfl, .ty "bool", .base (.int i), kit_ty (by decide +kernel), false, rfl, q⟩

abbrev s_law_common : Stmt := topS 18
abbrev N_law_common : List Str := ["one", "other", "rest"]
theorem sc_law_common : FnScope N_law_common ["one", "other"] (defScope s_law_common) := ⟨rfl, rfl, rfl, by decide +kernel, rfl, by decide +kernel, by decide +kernel⟩
def sp_law_common (K : PySem.W.Frag) (_ : ErrA) : Sp := fun vs H Q _ => ∃ x y : Int, vs = [.int x, .int y] ∧ 0 ≤ x ∧ 0 ≤ y ∧ Q (.int (gc x y)) H
theorem ok_law_common (D : Stands K mg "_law_common" s_law_common) (B : Bi mg) (Er : ErrOk K mg e) : Keeps P w K mg base 1 "_law_common" ["one", "other"] (sp_law_common K e) := by
  obtain ⟨f, fd, F, mF⟩ := D
  refine ⟨f, fd, ?_, F.binds (ps := ["one", "other"]) (fun _ _ _ _ _ _ us hl => match us, hl with | [_, _], _ => rfl), mF, F.kp⟩
  refine toX (F.ok sc_law_common (fun vs H Q E h => ?_) (fun cdv A outer s H vs Q E hr h => ?_))
  · obtain ⟨x, y, rfl, hx, hy, q⟩ := h
    rfl
  · obtain ⟨x, y, rfl, hx, hy, q⟩ := h
    refine ⟨_, (pss_cons (ps_while PassesOwn.never (pt_cmpR op_gt (pv 1) pe_int (nomark _)) (pss_cons (ps_set (i := 2) sc_law_common.nd rfl (Or.inl rfl) (pe_op op_mod (pv 0) (pv 1)))
      (pss_cons (ps_set (i := 0) sc_law_common.nd rfl (Or.inl rfl) (pv 1))
      (pss_one (ps_set (i := 1) sc_law_common.nd rfl (Or.inl rfl) (pv 2))))))
      (pss_one (ps_ret (pv 0)))), ?_⟩
    refine while_by (fun σ H' => H' = H ∧ ∃ (u v : Int) (r : Option V), σ = [some (.int u), some (.int v), r] ∧ 0 ≤ u ∧ 0 ≤ v ∧ gc u v = gc x y)
      (fun σ _ => match σ with | [_, some (.int v), _] => v.toNat | _ => 0) ⟨rfl, x, y, none, rfl, hx, hy, rfl⟩ ?_ ?_
    · rintro σ H' ⟨rfl, u, v, r, rfl, hu, hv, hg⟩
      refine ⟨_, rfl, _, _, rfl, rfl, _, rfl, ite2 (fun c => ?_) (fun c => ?_)⟩
      · have c := of_decide_eq_true c
        have m1 := Int.emod_nonneg u (b := v) (by omega)
        have m2 := Int.emod_lt_of_pos u c
        refine ⟨_, rfl, _, rfl, _, _, rfl, rfl, c, _, rfl, _, rfl, ⟨rfl, v, u % v, _, rfl, hv, m1, gc_step.trans hg⟩, ?_⟩
        show (u % v).toNat < v.toNat
        omega
      · have c : ¬ 0 < v := fun z => c (decide_eq_true z)
        have v0 : v = 0 := by omega
        subst v0
        rw [gc_zero hu] at hg
        refine ⟨_, rfl, ?_⟩
        rw [hg]
        exact q
    · rintro σ H' Q1 Q2 hq ⟨v, e1, i, j, e2, e3, k, e4, e5⟩
      exact ⟨v, e1, i, j, e2, e3, k, e4, hq _ _ e5⟩

abbrev s_law_lowest : Stmt := topS 19
abbrev N_law_lowest : List Str := ["top", "bottom", "far"]
theorem sc_law_lowest : FnScope N_law_lowest ["top", "bottom"] (defScope s_law_lowest) := ⟨rfl, rfl, rfl, by decide +kernel, rfl, by decide +kernel, by decide +kernel⟩
def sp_law_lowest (K : PySem.W.Frag) (_ : ErrA) : Sp := fun vs H Q _ => ∃ t b : Int, vs = [.int t, .int b] ∧ 0 ≤ t ∧ 1 ≤ b ∧ CDivP t (gc t b) ∧ CDivP b (gc t b) ∧
  ∀ H' p, Same H H' → H p = none → H' p = some (.tup [.int (low t b).1, .int (low t b).2]) → Q (.ref p) H'
theorem ok_law_lowest (D : Stands K mg "_law_lowest" s_law_lowest) (B : Bi mg) (Er : ErrOk K mg e)
    (h_law_common : Keeps P w K mg base 1 "_law_common" ["one", "other"] (sp_law_common K e)) : Keeps P w K mg base 2 "_law_lowest" ["top", "bottom"] (sp_law_lowest K e) := by
  obtain ⟨f, fd, F, mF⟩ := D
  obtain ⟨f_law_common, fd_law_common, G_law_common, b_law_common, m_law_common, k_law_common⟩ := h_law_common
  refine ⟨f, fd, ?_, F.binds (ps := ["top", "bottom"]) (fun _ _ _ _ _ _ us hl => match us, hl with | [_, _], _ => rfl), mF, F.kp⟩
  refine toX (F.ok sc_law_lowest (fun vs H Q E h => ?_) (fun cdv A outer s H vs Q E hr h => ?_))
  · obtain ⟨t, b, rfl, ht, hb, d1, d2, q⟩ := h
    rfl
  · obtain ⟨t, b, rfl, ht, hb, d1, d2, q⟩ := h
    refine ⟨_, (pss_cons (ps_set (i := 2) sc_law_lowest.nd rfl (Or.inl rfl) (pe_call G_law_common (hr.mono (by decide)) (by rfl) m_law_common k_law_common b_law_common .nil passL (pa_cons (pv 0) (pa_cons (pv 1) pa_nil))))
      (pss_one (ps_ret (pe_tup (pa_cons (pe_op op_fdivP (pv 0) (pv 2)) (pa_cons (pe_op op_fdivP (pv 1) (pv 2)) pa_nil)))))), ?_⟩
    have hf := gc_pos (t := t) hb
    refine ⟨_, rfl, _, rfl, t, b, rfl, ht, by omega, ?_⟩
    refine ⟨_, rfl, _, rfl, _, _, rfl, rfl, d1, _, rfl, _, rfl, _, _, rfl, rfl, d2, by show 2 ≤ sizeLine; decide, fun p hp => ?_⟩
    exact q _ p (same_new hp) hp upd_same

abbrev s_law_sum : Stmt := topS 20
abbrev N_law_sum : List Str := ["shares", "top", "bottom", "share"]
theorem sc_law_sum : FnScope N_law_sum ["shares"] (defScope s_law_sum) := ⟨rfl, rfl, rfl, by decide +kernel, rfl, by decide +kernel, by decide +kernel⟩
def sp_law_sum (K : PySem.W.Frag) (_ : ErrA) : Sp := fun vs H Q _ => ∃ (a : Addr) (xs : List Int), vs = [.ref a] ∧ SqL K H a (xs.map V.int) ∧ SumC xs ∧
  ∀ H' p, Same H H' → H p = none → H' p = some (.tup [.int (lowS xs).1, .int (lowS xs).2]) → Q (.ref p) H'
theorem ok_law_sum (D : Stands K mg "_law_sum" s_law_sum) (B : Bi mg) (Er : ErrOk K mg e)
    (h_law_lowest : Keeps P w K mg base 2 "_law_lowest" ["top", "bottom"] (sp_law_lowest K e)) : Keeps P w K mg base 3 "_law_sum" ["shares"] (sp_law_sum K e) := by
  obtain ⟨f, fd, F, mF⟩ := D
  obtain ⟨f_law_lowest, fd_law_lowest, G_law_lowest, b_law_lowest, m_law_lowest, k_law_lowest⟩ := h_law_lowest
  refine ⟨f, fd, ?_, F.binds (ps := ["shares"]) (fun _ _ _ _ _ _ us hl => match us, hl with | [_], _ => rfl), mF, F.kp⟩
  refine toX (F.ok sc_law_sum (fun vs H Q E h => ?_) (fun cdv A outer s H vs Q E hr h => ?_))
  · obtain ⟨a, xs, rfl, hS, ok, q⟩ := h
    rfl
  · obtain ⟨a, xs, rfl, hS, ok, q⟩ := h
    refine ⟨_, (pss_cons (ps_set (i := 1) sc_law_sum.nd rfl (Or.inl rfl) pe_int)
      (pss_cons (ps_set (i := 2) sc_law_sum.nd rfl (Or.inl rfl) pe_int)
      (pss_cons (ps_for PassesOwn.never rfl (pi_list (pv 0)) (pg_name (i := 3) sc_law_sum.nd rfl (Or.inl rfl)) (pss_cons (ps_set (i := 1) sc_law_sum.nd rfl (Or.inl rfl) (pe_op op_add (pe_op op_mulW (pv 1) (pv 3)) (pv 2)))
      (pss_one (ps_set (i := 2) sc_law_sum.nd rfl (Or.inl rfl) (pe_op op_mulW (pv 2) (pv 3))))))
      (pss_one (ps_ret (pe_call G_law_lowest (hr.mono (by decide)) (by rfl) m_law_lowest k_law_lowest b_law_lowest .nil passL (pa_cons (pv 1) (pa_cons (pv 2) pa_nil)))))))), ?_⟩
    refine ⟨_, rfl, a, rfl, ⟨_, hS⟩, for_list (K := K) (a := a) (xs := xs.map V.int) (fun i σ H' => H' = H ∧ ∃ v : Option V, σ = [some (.ref a), some (.int (sumS (xs.take i)).1), some (.int (sumS (xs.take i)).2), v])
      ⟨rfl, none, rfl⟩ (fun i σ H' _ h => h.1 ▸ hS) ?_ ?_⟩
    · rintro i y σ H' hy ⟨rfl, v, rfl⟩
      obtain ⟨s, es, rfl⟩ := of_get_map hy
      obtain ⟨m1, m2⟩ := ok.step es
      refine ⟨_, rfl, _, rfl, _, _, rfl, rfl, m1, _, rfl, _, _, rfl, rfl, _, rfl, _, rfl, _, _, rfl, rfl, m2, rfl, some (.int s), ?_⟩
      rw [take_snoc es, sumS_snoc] <;> rfl
    · rintro σ H' ⟨rfl, v, rfl⟩
      rw [List.length_map, List.take_length]
      obtain ⟨a1, a2, a3⟩ := sumS_pos _ ok.pos
      exact ⟨_, rfl, _, rfl, _, _, rfl, a1, a2, ok.d1, ok.d2, fun H' p s hp e => q H' p s hp e⟩

abbrev s_law_list : Stmt := topS 22
abbrev N_law_list : List Str := ["found", "due", "k"]
theorem sc_law_list : FnScope N_law_list ["found", "due"] (defScope s_law_list) := ⟨rfl, rfl, rfl, by decide +kernel, rfl, by decide +kernel, by decide +kernel⟩
/-- two lists of the same ints -/
def sp_law_list (K : PySem.W.Frag) (_ : ErrA) : Sp := fun vs H Q _ => ∃ (a b : Addr) (xs : List Int), vs = [.ref a, .ref b] ∧ SqL K H a (xs.map V.int) ∧ SqL K H b (xs.map V.int) ∧ xs.length ≤ 1000000 ∧ Q (.bl true) H
theorem ok_law_list (D : Stands K mg "_law_list" s_law_list) (B : Bi mg) (Er : ErrOk K mg e)
    (h_law_whole : Keeps P w K mg base 1 "_law_whole" ["found"] (sp_law_whole K e)) : Keeps P w K mg base 2 "_law_list" ["found", "due"] (sp_law_list K e) := by
  obtain ⟨f, fd, F, mF⟩ := D
  obtain ⟨f_law_whole, fd_law_whole, G_law_whole, b_law_whole, m_law_whole, k_law_whole⟩ := h_law_whole
  refine ⟨f, fd, ?_, F.binds (ps := ["found", "due"]) (fun _ _ _ _ _ _ us hl => match us, hl with | [_, _], _ => rfl), mF, F.kp⟩
  refine toX (F.ok sc_law_list (fun vs H Q E h => ?_) (fun cdv A outer s H vs Q E hr h => ?_))
  · obtain ⟨a, b, xs, rfl, hA, hB, hl, q⟩ := h
    rfl
  · obtain ⟨a, b, xs, rfl, hA, hB, hl, q⟩ := h
    refine ⟨_, (pss_cons (ps_if (PW.pt (pw_or (pt_not (pt_val (pe_callB call_isi (by rfl) B.isinstance (by decide +kernel) (pa_cons (pv 0) (pa_cons (pe_bltn (v := .ty "list") (by rfl) B.list (by decide +kernel) rfl) pa_nil))))) (pw_or1 (pt_cmpR op_ne (pe_callB call_len_seq (by rfl) B.len (by decide +kernel) (pa_cons (pv 0) pa_nil)) (pe_callB call_len_seq (by rfl) B.len (by decide +kernel) (pa_cons (pv 1) pa_nil)) (nomark _))))) (pss_one (ps_ret pe_bl)) pss_nil)
      (pss_cons (ps_for PassesOwn.never rfl (pi_range1 (by rfl) B.range (pa_cons (pe_callB call_len_seq (by rfl) B.len (by decide +kernel) (pa_cons (pv 1) pa_nil)) pa_nil)) (pg_name (i := 2) sc_law_list.nd rfl (Or.inl rfl)) (pss_one (ps_if (PW.pt (pw_or (pt_not (pt_val (pe_call G_law_whole (hr.mono (by decide)) (by rfl) m_law_whole k_law_whole b_law_whole .nil passL (pa_cons (pe_ix ix_list (pv 0) (pv 2) (fun _ _ => rfl)) pa_nil)))) (pw_or1 (pt_cmpR op_ne (pe_ix ix_list (pv 0) (pv 2) (fun _ _ => rfl)) (pe_ix ix_list (pv 1) (pv 2) (fun _ _ => rfl)) (nomark _))))) (pss_one (ps_ret pe_bl)) pss_nil)))
      (pss_one (ps_ret pe_bl)))), ?_⟩
    refine ⟨_, rfl, _, _, _, _, true, rfl, .ty "list", ty_list hA, kit_ty (by decide +kernel), true, rfl, ?_⟩
    show if (!true) = true then _ else _
    refine iteF ?_
    refine ⟨_, rfl, a, _, rfl, .inl hA, _, rfl, b, _, rfl, .inl hB, rfl, _, rfl, ?_⟩
    rw [decide_eq_true rfl]
    refine iteF ?_
    refine ⟨_, rfl, b, _, rfl, .inl hB, _, rfl, by omega, by rw [List.length_map]; omega, ?_⟩
    refine for_range (lo := 0) (n := _) (fun i σ H' => ∃ v : Option V, σ = [some (.ref a), some (.ref b), v] ∧ H' = H) ⟨none, rfl, rfl⟩ ?_ ?_
    · rintro i σ H' hi ⟨v, rfl, rfl⟩
      have hi : i < xs.length := by
        rw [List.length_map] at hi
        omega
      have g : (xs.map V.int)[i]? = some (.int xs[i]) := get_map (List.getElem?_eq_getElem hi)
      have e0 : (0 : Int) + (i : Int) = (i : Int) := by omega
      refine ⟨_, rfl, _, rfl, a, _, _, _, rfl, rfl, hA, by rw [e0]; exact atI_nat g, _, rfl, true, rfl, ?_⟩
      show if (!true) = true then _ else _
      refine iteF ?_
      refine ⟨_, rfl, _, rfl, a, _, _, _, rfl, rfl, hA, by rw [e0]; exact atI_nat g, _, rfl, _, rfl, b, _, _, _, rfl, rfl, hB, by rw [e0]; exact atI_nat g, rfl, _, rfl, ?_⟩
      rw [decide_eq_true rfl]
      exact iteF ⟨_, rfl, rfl⟩
    · rintro σ H' ⟨v, rfl, rfl⟩
      exact q

abbrev s_law_drawn : Stmt := topS 23
abbrev N_law_drawn : List Str := ["script", "first", "bottom", "top", "times"]
theorem sc_law_drawn : FnScope N_law_drawn ["script", "first"] (defScope s_law_drawn) := ⟨rfl, rfl, rfl, by decide +kernel, rfl, by decide +kernel, by decide +kernel⟩
/-- a fraction between nought and one, its bottom at most 1000 -/
def sp_law_drawn (K : PySem.W.Frag) (_ : ErrA) : Sp := fun vs H Q _ => ∃ (a : Addr) (ns : List Int) (f : Nat), vs = [.ref a, .int f] ∧ SqL K H a (ns.map V.int) ∧ ns.length ≤ 63 ∧
  ∀ (t b : Int) H' p, 1 ≤ t → t < b → b ≤ 1000 → Same H H' → H p = none → H' p = some (.tup [.int t, .int b]) → Q (.ref p) H'
theorem ok_law_drawn (D : Stands K mg "_law_drawn" s_law_drawn) (B : Bi mg) (Er : ErrOk K mg e)
    (h_law_cell_at : Keeps P w K mg base 1 "_law_cell_at" ["script", "k"] (sp_law_cell_at K e)) : Keeps P w K mg base 2 "_law_drawn" ["script", "first"] (sp_law_drawn K e) := by
  obtain ⟨f, fd, F, mF⟩ := D
  obtain ⟨f_law_cell_at, fd_law_cell_at, G_law_cell_at, b_law_cell_at, m_law_cell_at, k_law_cell_at⟩ := h_law_cell_at
  refine ⟨f, fd, ?_, F.binds (ps := ["script", "first"]) (fun _ _ _ _ _ _ us hl => match us, hl with | [_, _], _ => rfl), mF, F.kp⟩
  refine toX (F.ok sc_law_drawn (fun vs H Q E h => ?_) (fun cdv A outer s H vs Q E hr h => ?_))
  · obtain ⟨a, ns, f, rfl, hS, hlen, q⟩ := h
    rfl
  · obtain ⟨a, ns, f, rfl, hS, hlen, q⟩ := h
    refine ⟨_, (pss_cons (ps_set (i := 2) sc_law_drawn.nd rfl (Or.inl rfl) (pe_op op_add pe_int (pe_op op_mod (pe_op op_fdivP (pe_call G_law_cell_at (hr.mono (by decide)) (by rfl) m_law_cell_at k_law_cell_at b_law_cell_at .nil passL (pa_cons (pv 0) (pa_cons (pv 1) pa_nil))) pe_int) pe_int)))
      (pss_cons (ps_if (pt_cmpR op_eq (pe_op op_mod (pe_call G_law_cell_at (hr.mono (by decide)) (by rfl) m_law_cell_at k_law_cell_at b_law_cell_at .nil passL (pa_cons (pv 0) (pa_cons (pv 1) pa_nil))) pe_int) pe_int (nomark _)) (pss_one (ps_set (i := 2) sc_law_drawn.nd rfl (Or.inl rfl) (pe_op op_add pe_int (pe_op op_mod (pe_op op_fdivP (pe_call G_law_cell_at (hr.mono (by decide)) (by rfl) m_law_cell_at k_law_cell_at b_law_cell_at .nil passL (pa_cons (pv 0) (pa_cons (pv 1) pa_nil))) pe_int) pe_int)))) pss_nil)
      (pss_cons (ps_set (i := 3) sc_law_drawn.nd rfl (Or.inl rfl) (pe_op op_add pe_int (pe_op op_mod (pe_call G_law_cell_at (hr.mono (by decide)) (by rfl) m_law_cell_at k_law_cell_at b_law_cell_at .nil passL (pa_cons (pv 0) (pa_cons (pe_op op_add (pv 1) pe_int) pa_nil))) (pe_op op_sub (pv 2) pe_int))))
      (pss_cons (ps_set (i := 4) sc_law_drawn.nd rfl (Or.inl rfl) (pe_op op_add pe_int (pe_op op_mod (pe_call G_law_cell_at (hr.mono (by decide)) (by rfl) m_law_cell_at k_law_cell_at b_law_cell_at .nil passL (pa_cons (pv 0) (pa_cons (pe_op op_add (pv 1) pe_int) pa_nil))) pe_int)))
      (pss_cons (ps_if (pt_cmpR op_gt (pe_op op_mulW (pv 2) (pv 4)) pe_int (nomark _)) (pss_one (ps_set (i := 4) sc_law_drawn.nd rfl (Or.inl rfl) pe_int)) pss_nil)
      (pss_one (ps_ret (pe_tup (pa_cons (pe_op op_mulW (pv 3) (pv 4)) (pa_cons (pe_op op_mulW (pv 2) (pv 4)) pa_nil)))))))))), ?_⟩
    refine ⟨_, rfl, _, rfl, a, ns, f, rfl, hS, hlen, _, _, rfl, rfl, (Sz.lit : Sz 3 5).cd (by decide), _, _, rfl, rfl, by show (0 : Int) < 59; decide, _, _, rfl, rfl, ?_⟩
    dsimp only
    refine cut (fun σ' H' => H' = H ∧ ∃ b : Int, 2 ≤ b ∧ b ≤ 1000 ∧ σ' = [some (.ref a), some (.int f), some (.int b), none, none]) (fun R D k => ?_) ?_
    · refine ⟨_, rfl, _, rfl, a, ns, f, rfl, hS, hlen, _, _, rfl, rfl, by show (0 : Int) < 5; decide, rfl, _, rfl, ite2 (fun c => ?_) (fun c => ?_)⟩
      · refine ⟨_, rfl, _, rfl, a, ns, f, rfl, hS, hlen, _, _, rfl, rfl, (Sz.lit : Sz 3 5).cd (by decide), _, _, rfl, rfl, by show (0 : Int) < 999; decide, _, _, rfl, rfl, ?_⟩
        exact k _ _ ⟨rfl, 2 + cell ns f / 5 % 999, by omega, by omega, rfl⟩
      · exact k _ _ ⟨rfl, 2 + cell ns f / 5 % 59, by omega, by omega, rfl⟩
    · rintro σ H' ⟨rfl, b, b1, b2, rfl⟩
      have m1 := Int.emod_nonneg (cell ns (f + 1)) (b := b - 1) (by omega)
      have m2 := Int.emod_lt_of_pos (cell ns (f + 1)) (b := b - 1) (by omega)
      refine ⟨_, rfl, _, rfl, _, _, rfl, rfl, a, ns, f + 1, cell_arg (by omega), hS, hlen, _, rfl, _, _, rfl, rfl, _, _, rfl, rfl, by show 0 < b - 1; omega, _, _, rfl, rfl, ?_⟩
      refine ⟨_, rfl, _, rfl, _, _, rfl, rfl, a, ns, f + 2, cell_arg (by omega), hS, hlen, _, _, rfl, rfl, by show (0 : Int) < 4; decide, _, _, rfl, rfl, ?_⟩
      dsimp only
      obtain ⟨t, et⟩ : ∃ t : Int, 1 + cell ns (f + 1) % (b - 1) = t := ⟨_, rfl⟩
      refine cut (fun σ' H'' => H'' = H' ∧ ∃ m : Int, 1 ≤ m ∧ m ≤ 4 ∧ b * m ≤ 1000 ∧ σ' = [some (.ref a), some (.int f), some (.int b), some (.int t), some (.int m)]) (fun R D k => ?_) ?_
      · rw [et]
        have z1 : Sz 10 b := by
          show b.natAbs < 1024
          omega
        have z2 : Sz 10 (1 + cell ns (f + 2) % 4) := by
          show (1 + cell ns (f + 2) % 4).natAbs < 1024
          omega
        refine ⟨_, rfl, _, rfl, _, _, rfl, rfl, z1.cm z2, _, _, rfl, rfl, _, rfl, ite2 (fun c => ?_) (fun c => ?_)⟩
        · exact k _ _ ⟨rfl, 1, by omega, by omega, by omega, rfl⟩
        · have c : ¬ 1000 < b * (1 + cell ns (f + 2) % 4) := fun z => c (decide_eq_true z)
          exact k _ _ ⟨rfl, 1 + cell ns (f + 2) % 4, by omega, by omega, by omega, rfl⟩
      · rintro σ H2 ⟨rfl, m, h1, h2, h3, rfl⟩
        have zt : Sz 10 t := by
          show t.natAbs < 1024
          omega
        have zb : Sz 10 b := by
          show b.natAbs < 1024
          omega
        have zm : Sz 10 m := by
          show m.natAbs < 1024
          omega
        refine ⟨_, rfl, _, rfl, _, _, rfl, rfl, zt.cm zm, _, rfl, _, rfl, _, _, rfl, rfl, zb.cm zm, by show 2 ≤ sizeLine; decide, fun p hp => ?_⟩
        exact q (t * m) (b * m) _ p (Int.mul_pos (by omega) (by omega)) (Int.mul_lt_mul_of_pos_right (by omega) (by omega)) h3 (same_new hp) hp upd_same

abbrev s_law_walk : Stmt := topS 24
abbrev N_law_walk : List Str := ["fraction", "top", "found", "number"]
theorem sc_law_walk : FnScope N_law_walk ["fraction"] (defScope s_law_walk) := ⟨rfl, rfl, rfl, by decide +kernel, rfl, by decide +kernel, by decide +kernel⟩
def sp_law_walk (K : PySem.W.Frag) (_ : ErrA) : Sp := fun vs H Q _ => ∃ (a : Addr) (t b : Int), vs = [.ref a] ∧ SqT K H a [.int t, .int b] ∧ 0 ≤ t ∧ t < b ∧ b ≤ 1000 ∧
  ∀ H' p, Same H H' → H p = none → H' p = some (.lst ((rfs t b).map V.int)) → Q (.ref p) H'
theorem ok_law_walk (D : Stands K mg "_law_walk" s_law_walk) (B : Bi mg) (Er : ErrOk K mg e) : Keeps P w K mg base 1 "_law_walk" ["fraction"] (sp_law_walk K e) := by
  obtain ⟨f, fd, F, mF⟩ := D
  refine ⟨f, fd, ?_, F.binds (ps := ["fraction"]) (fun _ _ _ _ _ _ us hl => match us, hl with | [_], _ => rfl), mF, F.kp⟩
  refine toX (F.ok sc_law_walk (fun vs H Q E h => ?_) (fun cdv A outer s H vs Q E hr h => ?_))
  · obtain ⟨a, t, b, rfl, hS, h0, h1, h2, q⟩ := h
    rfl
  · obtain ⟨a, t, b, rfl, hS, h0, h1, h2, q⟩ := h
    refine ⟨_, (pss_cons (ps_set (i := 1) sc_law_walk.nd rfl (Or.inl rfl) (pe_ix ix_tup (pv 0) pe_int (fun _ _ => rfl)))
      (pss_cons (ps_set (i := 2) sc_law_walk.nd rfl (Or.inl rfl) (pe_lst pa_nil))
      (pss_cons (ps_while PassesOwn.never (pt_cmpR op_gt (pv 1) pe_int (nomark _)) (pss_cons (ps_set (i := 3) sc_law_walk.nd rfl (Or.inl rfl) (pe_op op_fdivP (pe_op op_sub (pe_op op_add (pe_ix ix_tup (pv 0) pe_int (fun _ _ => rfl)) (pv 1)) pe_int) (pv 1)))
      (pss_cons (ps_expr (pe_bm PySem.F.plainAttrs_list PySem.F.slot_list_append PySem.F.type_list_append mt_append (pv 2) (pa_cons (pv 3) pa_nil)))
      (pss_one (ps_set (i := 1) sc_law_walk.nd rfl (Or.inl rfl) (pe_op op_sub (pe_op op_mulW (pv 1) (pv 3)) (pe_ix ix_tup (pv 0) pe_int (fun _ _ => rfl))))))))
      (pss_one (ps_ret (pv 2)))))), ?_⟩
    refine ⟨_, rfl, a, _, 0, _, rfl, rfl, hS, atI_nat (j := 0) rfl, Nat.zero_le _, fun L hL => ?_⟩
    have sL := same_new (o := .lst []) hL
    refine while_by (fun σ H' => Same H H' ∧ ∃ (u : Int) (acc : List Int) (x : Option V), σ = [some (.ref a), some (.int u), some (.ref L), x] ∧ H' L = some (.lst (acc.map V.int)) ∧ 0 ≤ u ∧ u < b ∧ acc ++ rfs u b = rfs t b ∧ (acc.length : Int) + u ≤ b)
      (fun σ _ => match σ with | [_, some (.int u), _, _] => u.toNat | _ => 0) ⟨sL, t, [], none, rfl, upd_same, h0, h1, rfl, by show (0 : Int) + t ≤ b; omega⟩ ?_ ?_
    · rintro σ H2 ⟨s2, u, acc, x, rfl, eL, u0, ub, er, al⟩
      refine ⟨_, rfl, _, _, rfl, rfl, _, rfl, ite2 (fun c => ?_) (fun c => ?_)⟩
      · have c : 0 < u := of_decide_eq_true c
        have zu : Sz 10 u := by
          show u.natAbs < 1024
          omega
        have n1 := upF_pos (B := b) (T := u) (by omega) (by omega)
        have n2 := upF_le (B := b) (T := u) (by omega) (by omega)
        have zn : Sz 10 (upF b u) := by
          show (upF b u).natAbs < 1024
          omega
        have nn := nxt_nn (B := b) (T := u) (by omega)
        have nl := nxt_lt (B := b) (T := u) (by omega)
        have hA := same_tup s2 hS
        refine ⟨_, rfl, a, _, 1, _, rfl, rfl, hA, atI_nat (j := 1) rfl, _, rfl, _, _, rfl, rfl, _, _, rfl, rfl, _, rfl, _, _, rfl, rfl, (zu.mono : Sz 9000 u).cd c, ?_⟩
        show (tSeq _ _) _ [some (.ref a), some (.int u), some (.ref L), some (.int (upF b u))] H2
        refine ⟨_, rfl, .inl ⟨rfl, _, SqL.of eL⟩, _, rfl, L, _, _, rfl, rfl, eL, by
          rw [List.length_map]
          exact szl_lt (by omega), ?_⟩
        have s3 := same_mut (o := .lst (acc.map V.int ++ [.int (upF b u)])) s2 hL
        refine ⟨_, rfl, _, rfl, _, _, rfl, rfl, zu.cm zn, _, rfl, a, _, 1, _, rfl, rfl, same_tup s3 hS, atI_nat (j := 1) rfl, _, _, rfl, rfl, ⟨s3, nxt u b, acc ++ [upF b u], _, rfl, ?_, nn, by omega, ?_, ?_⟩, ?_⟩
        · rw [upd_same, List.map_append] <;> rfl
        · rw [List.append_assoc, List.singleton_append, ← rfs_cons (by omega)]
          exact er
        · rw [List.length_append, List.length_singleton]
          omega
        · show (nxt u b).toNat < u.toNat
          omega
      · have c : ¬ 0 < u := fun z => c (decide_eq_true z)
        rw [rfs_nil (by omega), List.append_nil] at er
        rw [er] at eL
        exact ⟨_, rfl, q H2 L s2 hL eL⟩
    · rintro σ H' Q1 Q2 hq ⟨v, e1, i, j, e2, e3, k, e4, e5⟩
      exact ⟨v, e1, i, j, e2, e3, k, e4, hq _ _ e5⟩

abbrev s_law : Stmt := topS 25
abbrev N_law : List Str := ["script", "fraction", "least", "due", "found", "shares", "share", "number", "told"]
theorem sc_law : FnScope N_law ["script"] (defScope s_law) := ⟨rfl, rfl, rfl, by decide +kernel, rfl, by decide +kernel, by decide +kernel⟩
def sp_law (K : PySem.W.Frag) : Sp := fun vs H Q _ => ∃ (a : Addr) (ns : List Int), vs = [.ref a] ∧ SqL K H a (ns.map V.int) ∧ ns.length ≤ 63 ∧ ∀ H', Q (.bl true) H'
theorem ok_law {f : Addr} {fd : FuncData} (F : Fun K "law" "law" s_law f fd) (B : Bi mg) (Er : ErrOk K mg e)
    (h_law_drawn : Keeps P w K mg base 2 "_law_drawn" ["script", "first"] (sp_law_drawn K e))
    (h_law_lowest : Keeps P w K mg base 2 "_law_lowest" ["top", "bottom"] (sp_law_lowest K e))
    (h_law_walk : Keeps P w K mg base 1 "_law_walk" ["fraction"] (sp_law_walk K e))
    (h_rising_factors : Keeps P w K mg base 4 "rising_factors" ["fraction"] (sp_rising_factors K e))
    (h_rising : Keeps P w K mg base 5 "rising" ["fraction"] (sp_rising K e))
    (h_law_list : Keeps P w K mg base 2 "_law_list" ["found", "due"] (sp_law_list K e))
    (h_law_sum : Keeps P w K mg base 3 "_law_sum" ["shares"] (sp_law_sum K e)) : FnOk P w K mg base CX0 6 f fd ["script"] (sp_law K) := by
  obtain ⟨f_law_drawn, fd_law_drawn, G_law_drawn, b_law_drawn, m_law_drawn, k_law_drawn⟩ := h_law_drawn
  obtain ⟨f_law_lowest, fd_law_lowest, G_law_lowest, b_law_lowest, m_law_lowest, k_law_lowest⟩ := h_law_lowest
  obtain ⟨f_law_walk, fd_law_walk, G_law_walk, b_law_walk, m_law_walk, k_law_walk⟩ := h_law_walk
  obtain ⟨f_rising_factors, fd_rising_factors, G_rising_factors, b_rising_factors, m_rising_factors, k_rising_factors⟩ := h_rising_factors
  obtain ⟨f_rising, fd_rising, G_rising, b_rising, m_rising, k_rising⟩ := h_rising
  obtain ⟨f_law_list, fd_law_list, G_law_list, b_law_list, m_law_list, k_law_list⟩ := h_law_list
  obtain ⟨f_law_sum, fd_law_sum, G_law_sum, b_law_sum, m_law_sum, k_law_sum⟩ := h_law_sum
  refine F.ok sc_law (fun vs H Q E h => ?_) (fun cdv A outer s H vs Q E hr h => ?_)
  · obtain ⟨a, ns, rfl, _⟩ := h
    rfl
  · obtain ⟨a, ns, rfl, hS, hlen, kq⟩ := h
    refine ⟨_, (pss_cons (ps_set (i := 1) sc_law.nd rfl (Or.inl rfl) (pe_call G_law_drawn (hr.mono (by decide)) (by rfl) m_law_drawn k_law_drawn b_law_drawn .nil passL (pa_cons (pv 0) (pa_cons pe_int pa_nil))))
      (pss_cons (ps_set (i := 2) sc_law.nd rfl (Or.inl rfl) (pe_call G_law_lowest (hr.mono (by decide)) (by rfl) m_law_lowest k_law_lowest b_law_lowest .nil passL (pa_cons (pe_ix ix_tup (pv 1) pe_int (fun _ _ => rfl)) (pa_cons (pe_ix ix_tup (pv 1) pe_int (fun _ _ => rfl)) pa_nil))))
      (pss_cons (ps_set (i := 3) sc_law.nd rfl (Or.inl rfl) (pe_call G_law_walk (hr.mono (by decide)) (by rfl) m_law_walk k_law_walk b_law_walk .nil passL (pa_cons (pv 2) pa_nil)))
      (pss_cons (ps_set (i := 4) sc_law.nd rfl (Or.inl rfl) (pe_call G_rising_factors (hr.mono (by decide)) (by rfl) m_rising_factors k_rising_factors b_rising_factors .nil passL (pa_cons (pv 1) pa_nil)))
      (pss_cons (ps_if (PW.pt (pw_or (pt_not (pt_val (pe_call G_law_list (hr.mono (by decide)) (by rfl) m_law_list k_law_list b_law_list .nil passL (pa_cons (pv 4) (pa_cons (pv 3) pa_nil))))) (pw_or (pt_cmpR op_lt (pe_callB (cr_min rfl) (by rfl) B.min (by decide +kernel) (pa_cons (pv 3) pa_nil)) pe_int (nomark _)) (pw_or (pt_cmpR (op_neD hr.units) (pe_callB cr_sortedI (by rfl) B.sorted (by decide +kernel) (pa_cons (pv 3) pa_nil)) (pv 3) (nomark _)) (pw_or1 (pt_cmpR op_gt (pe_callB call_len_seq (by rfl) B.len (by decide +kernel) (pa_cons (pv 3) pa_nil)) (pe_ix ix_tup (pv 2) pe_int (fun _ _ => rfl)) (nomark _))))))) (pss_one (ps_ret pe_bl)) pss_nil)
      (pss_cons (ps_set (i := 5) sc_law.nd rfl (Or.inl rfl) (pe_lst pa_nil))
      (pss_cons (ps_set (i := 6) sc_law.nd rfl (Or.inl rfl) pe_int)
      (pss_cons (ps_for PassesOwn.never rfl (pi_list (pv 3)) (pg_name (i := 7) sc_law.nd rfl (Or.inl rfl)) (pss_cons (ps_set (i := 6) sc_law.nd rfl (Or.inl rfl) (pe_op op_mulW (pv 6) (pv 7)))
      (pss_one (ps_expr (pe_bm PySem.F.plainAttrs_list PySem.F.slot_list_append PySem.F.type_list_append mt_append (pv 5) (pa_cons (pv 6) pa_nil))))))
      (pss_cons (ps_set (i := 8) sc_law.nd rfl (Or.inl rfl) (pe_call G_rising (hr.mono (by decide)) (by rfl) m_rising k_rising b_rising .nil passL (pa_cons (pv 1) pa_nil)))
      (pss_cons (ps_if (PW.pt (pw_or (pt_not (pt_val (pe_call G_law_list (hr.mono (by decide)) (by rfl) m_law_list k_law_list b_law_list .nil passL (pa_cons (pv 8) (pa_cons (pv 5) pa_nil))))) (pw_or1 (pt_cmpR (op_neD hr.units) (pe_call G_law_sum (hr.mono (by decide)) (by rfl) m_law_sum k_law_sum b_law_sum .nil passL (pa_cons (pv 5) pa_nil)) (pv 2) (nomark _))))) (pss_one (ps_ret pe_bl)) pss_nil)
      (pss_cons (ps_expr (pe_bm PySem.F.plainAttrs_list PySem.F.slot_list_append PySem.F.type_list_append mt_append (pv 4) (pa_cons pe_int pa_nil)))
      (pss_cons (ps_expr (pe_bm0 PySem.F.plainAttrs_list PySem.F.slot_list_clear PySem.F.type_list_clear mt_clear (pv 8)))
      (pss_one (ps_ret (pe_and (pe_call G_law_list (hr.mono (by decide)) (by rfl) m_law_list k_law_list b_law_list .nil passL (pa_cons (pe_call G_rising_factors (hr.mono (by decide)) (by rfl) m_rising_factors k_rising_factors b_rising_factors .nil passL (pa_cons (pv 1) pa_nil)) (pa_cons (pv 3) pa_nil))) (pe_one (pe_call G_law_list (hr.mono (by decide)) (by rfl) m_law_list k_law_list b_law_list .nil passL (pa_cons (pe_call G_rising (hr.mono (by decide)) (by rfl) m_rising k_rising b_rising .nil passL (pa_cons (pv 1) pa_nil)) (pa_cons (pv 5) pa_nil))))))))))))))))))), ?_⟩
    refine ⟨_, rfl, a, ns, 0, rfl, hS, hlen, fun t b H1 f t1 tb b2 s1 nf ef => ?_⟩
    have z9 : Sz 9000 b := Sz.mono (a := 10) (by show b.natAbs < 1024; omega)
    obtain ⟨d1, d2⟩ := low_divs (t := t) (by omega : 1 ≤ b) z9
    refine ⟨_, rfl, f, _, 0, _, rfl, rfl, SqT.of ef, atI_nat (j := 0) rfl, _, rfl, f, _, 1, _, rfl, rfl, SqT.of ef, atI_nat (j := 1) rfl, t, b, rfl, by omega, by omega, d1, d2, fun H2 l s2 nl el => ?_⟩
    have b1 : 1 ≤ b := by omega
    have c0 := low_cross t b
    have l1 := low_bpos (t := t) b1
    have l2 := low_tnn (t := t) b1 (by omega)
    have l3 := low_ble (t := t) b1
    have l4 : (low t b).1 < (low t b).2 := by
      refine Int.lt_of_mul_lt_mul_right (a := b) ?_ (by omega)
      rw [← c0, Int.mul_comm]
      exact Int.mul_lt_mul_of_pos_left tb (by omega)
    have l5 : 1 ≤ (low t b).1 := by
      by_cases z : (low t b).1 = 0
      · rw [z, Int.zero_mul] at c0
        have := Int.mul_pos (a := t) (b := (low t b).2) (by omega) (by omega)
        omega
      · omega
    have ll : low (low t b).1 (low t b).2 = low t b := low_low b1
    have eq0 : rfs (low t b).1 (low t b).2 = rfs t b := (rfs_rel b1 l1 t _ (by omega) l2 c0).symm
    obtain ⟨T, eT⟩ : ∃ T, (low t b).1 = T := ⟨_, rfl⟩
    obtain ⟨B, eB⟩ : ∃ B, (low t b).2 = B := ⟨_, rfl⟩
    rw [eT, eB] at el eq0 l4 ll
    rw [eT] at l2 l5
    rw [eB] at l1 l3
    have lp : low T B = (T, B) := by rw [ll, ← eT, ← eB]
    have ef2 := s2 _ _ ef
    refine ⟨_, rfl, l, T, B, rfl, SqT.of el, l2, l4, by omega, fun H3 D s3 nD eD => ?_⟩
    refine ⟨_, rfl, f, t, b, rfl, SqT.of (s3 _ _ ef2), by omega, fun z => absurd z (by omega), fun _ _ z => absurd z (by omega), fun _ _ H4 F s4 nF eF => ?_⟩
    have lw := rfs_low (B := B) l1 T l4
    have ln := rfs_len (B := B) T l2
    have sums := prods_ok (T := T) (B := B) (by omega) l1 l4 l2
    have lowp := low_prods l1 l2 sums.pos
    have ne : rfs T B ≠ [] := by
      rw [rfs_cons (by omega)]
      exact fun z => nomatch z
    rw [← eq0] at eF
    rw [lp] at lowp
    generalize rfs T B = xs at *
    have eD4 := s4 _ _ eD
    have el4 := s4 _ _ (s3 _ _ el)
    have ef4 := s4 _ _ (s3 _ _ ef2)
    have sA := ((s1.trans s2).trans s3).trans s4
    refine ⟨_, rfl, _, rfl, F, D, xs, rfl, SqL.of eF, SqL.of eD4, by omega, _, rfl, ?_⟩
    show if (!true) = true then _ else _
    refine iteF ?_
    refine ⟨_, rfl, D, xs, rfl, SqL.of eD4, by
      cases xs with
      | nil => exact absurd rfl ne
      | cons x r => exact Nat.succ_pos _, fun m hm hle => ?_⟩
    have m2 := (lw.1 m hm).1
    refine ⟨_, _, rfl, rfl, _, rfl, ?_⟩
    rw [decide_eq_false (by omega)]
    refine iteF ?_
    refine ⟨_, rfl, D, xs, rfl, SqL.of eD4, fun ys S perm srt nS => ?_⟩
    have exy : ys = xs := PySem.W.ksm_same perm srt lw.2.1
    subst exy
    have s5 := same_new (o := .lst (ys.map V.int)) nS
    have eS : (upd H4 S (.lst (ys.map V.int))) S = some (.lst (ys.map V.int)) := upd_same
    have eD5 := s5 _ _ eD4
    have el5 := s5 _ _ el4
    have eF5 := s5 _ _ eF
    have ef5 := s5 _ _ ef4
    have FS : F ≠ S := ne_of_none eF nS
    generalize upd H4 S (.lst (ys.map V.int)) = H5 at *
    refine ⟨_, rfl, _, _, dp_ints (SqL.of eS), dp_ints (SqL.of eD5), shaped_ints _, shaped_ints _, _, rfl, ?_⟩
    rw [eqv_ints, decide_eq_true rfl]
    show if (!true) = true then _ else _
    refine iteF ?_
    refine ⟨_, rfl, D, _, rfl, .inl (SqL.of eD5), _, rfl, l, _, 0, _, rfl, rfl, SqT.of el5, atI_nat (j := 0) rfl, _, _, rfl, rfl, _, rfl, ?_⟩
    rw [List.length_map, decide_eq_false (by omega)]
    refine iteF ?_
    refine ⟨Nat.zero_le _, fun G nG => ?_⟩
    have s6 := same_new (o := .lst []) nG
    have eD6 := s6 _ _ eD5
    have el6 := s6 _ _ el5
    have eF6 := s6 _ _ eF5
    have ef6 := s6 _ _ ef5
    have DG : D ≠ G := ne_of_none eD5 nG
    have FG : F ≠ G := ne_of_none eF5 nG
    have lG : l ≠ G := ne_of_none el5 nG
    have fG : f ≠ G := ne_of_none ef5 nG
    refine ⟨_, rfl, D, rfl, ⟨_, SqL.of eD6⟩, for_list (K := K) (a := D) (xs := ys.map V.int) (fun i σ H' => Same H5 H' ∧ H' G = some (.lst ((prodsF 1 (ys.take i)).map V.int)) ∧
      ∃ v : Option V, σ = [some (.ref a), some (.ref f), some (.ref l), some (.ref D), some (.ref F), some (.ref G), some (.int ((ys.take i).foldl (· * ·) 1)), v, none]) ⟨s6, upd_same, none, rfl⟩ (fun i σ H' _ h => SqL.of (h.1 _ _ eD5)) ?_ ?_⟩
    · rintro i y σ H7 hy ⟨s7, eG7, v, rfl⟩
      obtain ⟨n, en, rfl⟩ := of_get_map hy
      have hn := lw.1 n (List.mem_of_getElem? en)
      obtain ⟨f1, f2⟩ := foldl_sz (ys.take i) fun m hm => by
        have := lw.1 m (List.mem_of_mem_take hm)
        exact ⟨by omega, by show m.natAbs < 1048576; omega⟩
      have f3 : Sz 200021 ((ys.take i).foldl (· * ·) 1) := f2.mono (by rw [List.length_take]; omega)
      have zn : Sz 20 n := by
        show n.natAbs < 1048576
        omega
      refine ⟨_, rfl, _, rfl, _, _, rfl, rfl, f3.cm zn, ?_⟩
      refine ⟨_, rfl, .inl ⟨rfl, _, SqL.of eG7⟩, _, rfl, G, _, _, rfl, rfl, eG7, by
        rw [List.length_map, prodsF_len, List.length_take]
        exact szl_lt (by omega), same_mut s7 nG, ?_, some (.int n), ?_⟩
      · rw [upd_same, take_snoc en, prodsF_snoc, List.map_append, Int.one_mul]
        exact rfl
      · rw [take_snoc en, foldl_mul]
        exact rfl
    · rintro σ H7 ⟨s7, eG7, v, rfl⟩
      rw [List.length_map, List.take_length] at eG7
      rw [List.length_map, List.take_length]
      have sB := (sA.trans s5).trans s7
      refine ⟨_, rfl, f, t, b, rfl, SqT.of (s7 _ _ ef5), by omega, fun z => absurd z (by omega), fun _ _ z => absurd z (by omega), fun _ _ H8 U s8 nU eU => ?_⟩
      rw [← eq0] at eU
      have eG8 := s8 _ _ eG7
      refine ⟨_, rfl, _, rfl, U, G, _, rfl, SqL.of eU, SqL.of eG8, by rw [prodsF_len]; omega, _, rfl, ?_⟩
      show if (!true) = true then _ else _
      refine iteF ?_
      refine ⟨_, rfl, G, _, rfl, SqL.of eG8, sums, fun H9 r s9 nr er => ?_⟩
      rw [lowp] at er
      have el9 := s9 _ _ (s8 _ _ (s7 _ _ el5))
      refine ⟨_, rfl, _, _, dp_pair (SqT.of er), dp_pair (SqT.of el9), rfl, rfl, _, rfl, ?_⟩
      rw [eqv_pair, decide_eq_true ⟨rfl, rfl⟩]
      show if (!true) = true then _ else _
      refine iteF ?_
      have eF9 := s9 _ _ (s8 _ _ (s7 _ _ eF5))
      have eD9 := s9 _ _ (s8 _ _ (s7 _ _ eD5))
      have eG9 := s9 _ _ eG8
      have eU9 := s9 _ _ eU
      have ef9 := s9 _ _ (s8 _ _ (s7 _ _ ef5))
      have UF : U ≠ F := (ne_of_none (s7 _ _ eF5) nU).symm
      have DF : D ≠ F := ne_of_none eD nF
      have DU : D ≠ U := (ne_of_none (s7 _ _ eD5) nU)
      have GU : G ≠ U := ne_of_none eG7 nU
      have fF : f ≠ F := ne_of ef9 eF9 (fun z => by cases z)
      have fU : f ≠ U := ne_of ef9 eU9 (fun z => by cases z)
      refine ⟨_, rfl, .inl ⟨rfl, _, SqL.of eF9⟩, F, _, _, rfl, rfl, eF9, by rw [List.length_map]; exact szl_lt (by omega), ?_⟩
      have eU10 : (upd H9 F (.lst (ys.map V.int ++ [.int 0]))) U = some (.lst ((prodsF 1 ys).map V.int)) := by
        rw [upd_ne UF]
        exact eU9
      refine ⟨_, rfl, .inl ⟨rfl, _, SqL.of eU10⟩, U, _, rfl, rfl, eU10, ?_⟩
      have ef11 : (upd (upd H9 F (.lst (ys.map V.int ++ [.int 0]))) U (.lst [])) f = some (.tup [.int t, .int b]) := by
        rw [upd_ne fU, upd_ne fF]
        exact ef9
      have eD11 : (upd (upd H9 F (.lst (ys.map V.int ++ [.int 0]))) U (.lst [])) D = some (.lst (ys.map V.int)) := by
        rw [upd_ne DU, upd_ne DF]
        exact eD9
      have eG11 : (upd (upd H9 F (.lst (ys.map V.int ++ [.int 0]))) U (.lst [])) G = some (.lst ((prodsF 1 ys).map V.int)) := by
        rw [upd_ne GU, upd_ne FG.symm]
        exact eG9
      generalize upd (upd H9 F (.lst (ys.map V.int ++ [.int 0]))) U (.lst []) = H11 at *
      refine ⟨_, rfl, f, t, b, rfl, SqT.of ef11, by omega, fun z => absurd z (by omega), fun _ _ z => absurd z (by omega), fun _ _ H12 x s12 nx ex => ?_⟩
      rw [← eq0] at ex
      refine ⟨_, rfl, x, D, ys, rfl, SqL.of ex, SqL.of (s12 _ _ eD11), by omega, true, rfl, iteT ?_⟩
      refine ⟨_, rfl, f, t, b, rfl, SqT.of (s12 _ _ ef11), by omega, fun z => absurd z (by omega), fun _ _ z => absurd z (by omega), fun _ _ H13 y s13 ny ey => ?_⟩
      rw [← eq0] at ey
      exact ⟨_, rfl, y, G, _, rfl, SqL.of ey, SqL.of (s13 _ _ (s12 _ _ eG11)), by rw [prodsF_len]; omega, kq _⟩

end

theorem all_mk {l : PySem.W.OpenLaw} {w : World} {K : PySem.W.Frag} {h : Heap} {mg : Str → Option Value} {fa : Addr} (X : K.In h) (G : h.Ns mainGlobals mg) (hfa : mg "law" = some (.ref fa))
    {f0 : Addr} {od0 an0 : Option Addr} {sl0 : Array (Option Value)} {oc0 kV0 dc0 pm0 cd0 ct0 : Value}
    {f1 : Addr} {od1 an1 : Option Addr} {sl1 : Array (Option Value)} {oc1 kV1 dc1 pm1 cd1 ct1 : Value}
    {f2 : Addr} {od2 an2 : Option Addr} {sl2 : Array (Option Value)} {oc2 kV2 dc2 pm2 cd2 ct2 : Value}
    {f3 : Addr} {od3 an3 : Option Addr} {sl3 : Array (Option Value)} {oc3 kV3 dc3 pm3 cd3 ct3 : Value}
    {f4 : Addr} {od4 an4 : Option Addr} {sl4 : Array (Option Value)} {oc4 kV4 dc4 pm4 cd4 ct4 : Value}
    {f5 : Addr} {od5 an5 : Option Addr} {sl5 : Array (Option Value)} {oc5 kV5 dc5 pm5 cd5 ct5 : Value}
    {f6 : Addr} {od6 an6 : Option Addr} {sl6 : Array (Option Value)} {oc6 kV6 dc6 pm6 cd6 ct6 : Value}
    {f7 : Addr} {od7 an7 : Option Addr} {sl7 : Array (Option Value)} {oc7 kV7 dc7 pm7 cd7 ct7 : Value}
    {f8 : Addr} {od8 an8 : Option Addr} {sl8 : Array (Option Value)} {oc8 kV8 dc8 pm8 cd8 ct8 : Value}
    {f9 : Addr} {od9 an9 : Option Addr} {sl9 : Array (Option Value)} {oc9 kV9 dc9 pm9 cd9 ct9 : Value}
    {f10 : Addr} {od10 an10 : Option Addr} {sl10 : Array (Option Value)} {oc10 kV10 dc10 pm10 cd10 ct10 : Value}
    {f11 : Addr} {od11 an11 : Option Addr} {sl11 : Array (Option Value)} {oc11 kV11 dc11 pm11 cd11 ct11 : Value}
    {f12 : Addr} {od12 an12 : Option Addr} {sl12 : Array (Option Value)} {oc12 kV12 dc12 pm12 cd12 ct12 : Value}
    {f13 : Addr} {od13 an13 : Option Addr} {sl13 : Array (Option Value)} {oc13 kV13 dc13 pm13 cd13 ct13 : Value}
    {f14 : Addr} {od14 an14 : Option Addr} {sl14 : Array (Option Value)} {oc14 kV14 dc14 pm14 cd14 ct14 : Value}
    {f15 : Addr} {od15 an15 : Option Addr} {sl15 : Array (Option Value)} {oc15 kV15 dc15 pm15 cd15 ct15 : Value}
    {f16 : Addr} {od16 an16 : Option Addr} {sl16 : Array (Option Value)} {oc16 kV16 dc16 pm16 cd16 ct16 : Value}
    {f17 : Addr} {od17 an17 : Option Addr} {sl17 : Array (Option Value)} {oc17 kV17 dc17 pm17 cd17 ct17 : Value}
    {CShareError : Addr}
    {CNoFraction : Addr}
    {CNotBelow : Addr}
    (a0 : PySem.W.nsIn K mainGlobals "see" = some (some (.ref f0)))
    (l0 : K.lookup f0 = some ⟨oc0, od0, .func (PySem.W.fnOf "see" "see" (defArgs s_see) (defBody s_see) (defScope s_see) .none kV0 dc0 pm0 an0 cd0 ct0), sl0⟩)
    (c0 : PySem.W.codeIn K cd0 "see" = true)
    (k0 : PySem.W.keepIn K (.ref f0) = true)
    (a1 : PySem.W.nsIn K mainGlobals "common" = some (some (.ref f1)))
    (l1 : K.lookup f1 = some ⟨oc1, od1, .func (PySem.W.fnOf "common" "common" (defArgs s_common) (defBody s_common) (defScope s_common) .none kV1 dc1 pm1 an1 cd1 ct1), sl1⟩)
    (c1 : PySem.W.codeIn K cd1 "common" = true)
    (k1 : PySem.W.keepIn K (.ref f1) = true)
    (a2 : PySem.W.nsIn K mainGlobals "lowest" = some (some (.ref f2)))
    (l2 : K.lookup f2 = some ⟨oc2, od2, .func (PySem.W.fnOf "lowest" "lowest" (defArgs s_lowest) (defBody s_lowest) (defScope s_lowest) .none kV2 dc2 pm2 an2 cd2 ct2), sl2⟩)
    (c2 : PySem.W.codeIn K cd2 "lowest" = true)
    (k2 : PySem.W.keepIn K (.ref f2) = true)
    (a3 : PySem.W.nsIn K mainGlobals "less" = some (some (.ref f3)))
    (l3 : K.lookup f3 = some ⟨oc3, od3, .func (PySem.W.fnOf "less" "less" (defArgs s_less) (defBody s_less) (defScope s_less) .none kV3 dc3 pm3 an3 cd3 ct3), sl3⟩)
    (c3 : PySem.W.codeIn K cd3 "less" = true)
    (k3 : PySem.W.keepIn K (.ref f3) = true)
    (a4 : PySem.W.nsIn K mainGlobals "taken" = some (some (.ref f4)))
    (l4 : K.lookup f4 = some ⟨oc4, od4, .func (PySem.W.fnOf "taken" "taken" (defArgs s_taken) (defBody s_taken) (defScope s_taken) .none kV4 dc4 pm4 an4 cd4 ct4), sl4⟩)
    (c4 : PySem.W.codeIn K cd4 "taken" = true)
    (k4 : PySem.W.keepIn K (.ref f4) = true)
    (a5 : PySem.W.nsIn K mainGlobals "see_below" = some (some (.ref f5)))
    (l5 : K.lookup f5 = some ⟨oc5, od5, .func (PySem.W.fnOf "see_below" "see_below" (defArgs s_see_below) (defBody s_see_below) (defScope s_see_below) .none kV5 dc5 pm5 an5 cd5 ct5), sl5⟩)
    (c5 : PySem.W.codeIn K cd5 "see_below" = true)
    (k5 : PySem.W.keepIn K (.ref f5) = true)
    (a6 : PySem.W.nsIn K mainGlobals "up" = some (some (.ref f6)))
    (l6 : K.lookup f6 = some ⟨oc6, od6, .func (PySem.W.fnOf "up" "up" (defArgs s_up) (defBody s_up) (defScope s_up) .none kV6 dc6 pm6 an6 cd6 ct6), sl6⟩)
    (c6 : PySem.W.codeIn K cd6 "up" = true)
    (k6 : PySem.W.keepIn K (.ref f6) = true)
    (a7 : PySem.W.nsIn K mainGlobals "rising_factors" = some (some (.ref f7)))
    (l7 : K.lookup f7 = some ⟨oc7, od7, .func (PySem.W.fnOf "rising_factors" "rising_factors" (defArgs s_rising_factors) (defBody s_rising_factors) (defScope s_rising_factors) .none kV7 dc7 pm7 an7 cd7 ct7), sl7⟩)
    (c7 : PySem.W.codeIn K cd7 "rising_factors" = true)
    (k7 : PySem.W.keepIn K (.ref f7) = true)
    (a8 : PySem.W.nsIn K mainGlobals "rising" = some (some (.ref f8)))
    (l8 : K.lookup f8 = some ⟨oc8, od8, .func (PySem.W.fnOf "rising" "rising" (defArgs s_rising) (defBody s_rising) (defScope s_rising) .none kV8 dc8 pm8 an8 cd8 ct8), sl8⟩)
    (c8 : PySem.W.codeIn K cd8 "rising" = true)
    (k8 : PySem.W.keepIn K (.ref f8) = true)
    (a9 : PySem.W.nsIn K mainGlobals "_law_cell_at" = some (some (.ref f9)))
    (l9 : K.lookup f9 = some ⟨oc9, od9, .func (PySem.W.fnOf "_law_cell_at" "_law_cell_at" (defArgs s_law_cell_at) (defBody s_law_cell_at) (defScope s_law_cell_at) .none kV9 dc9 pm9 an9 cd9 ct9), sl9⟩)
    (c9 : PySem.W.codeIn K cd9 "_law_cell_at" = true)
    (k9 : PySem.W.keepIn K (.ref f9) = true)
    (a10 : PySem.W.nsIn K mainGlobals "_law_whole" = some (some (.ref f10)))
    (l10 : K.lookup f10 = some ⟨oc10, od10, .func (PySem.W.fnOf "_law_whole" "_law_whole" (defArgs s_law_whole) (defBody s_law_whole) (defScope s_law_whole) .none kV10 dc10 pm10 an10 cd10 ct10), sl10⟩)
    (c10 : PySem.W.codeIn K cd10 "_law_whole" = true)
    (k10 : PySem.W.keepIn K (.ref f10) = true)
    (a11 : PySem.W.nsIn K mainGlobals "_law_common" = some (some (.ref f11)))
    (l11 : K.lookup f11 = some ⟨oc11, od11, .func (PySem.W.fnOf "_law_common" "_law_common" (defArgs s_law_common) (defBody s_law_common) (defScope s_law_common) .none kV11 dc11 pm11 an11 cd11 ct11), sl11⟩)
    (c11 : PySem.W.codeIn K cd11 "_law_common" = true)
    (k11 : PySem.W.keepIn K (.ref f11) = true)
    (a12 : PySem.W.nsIn K mainGlobals "_law_lowest" = some (some (.ref f12)))
    (l12 : K.lookup f12 = some ⟨oc12, od12, .func (PySem.W.fnOf "_law_lowest" "_law_lowest" (defArgs s_law_lowest) (defBody s_law_lowest) (defScope s_law_lowest) .none kV12 dc12 pm12 an12 cd12 ct12), sl12⟩)
    (c12 : PySem.W.codeIn K cd12 "_law_lowest" = true)
    (k12 : PySem.W.keepIn K (.ref f12) = true)
    (a13 : PySem.W.nsIn K mainGlobals "_law_sum" = some (some (.ref f13)))
    (l13 : K.lookup f13 = some ⟨oc13, od13, .func (PySem.W.fnOf "_law_sum" "_law_sum" (defArgs s_law_sum) (defBody s_law_sum) (defScope s_law_sum) .none kV13 dc13 pm13 an13 cd13 ct13), sl13⟩)
    (c13 : PySem.W.codeIn K cd13 "_law_sum" = true)
    (k13 : PySem.W.keepIn K (.ref f13) = true)
    (a14 : PySem.W.nsIn K mainGlobals "_law_list" = some (some (.ref f14)))
    (l14 : K.lookup f14 = some ⟨oc14, od14, .func (PySem.W.fnOf "_law_list" "_law_list" (defArgs s_law_list) (defBody s_law_list) (defScope s_law_list) .none kV14 dc14 pm14 an14 cd14 ct14), sl14⟩)
    (c14 : PySem.W.codeIn K cd14 "_law_list" = true)
    (k14 : PySem.W.keepIn K (.ref f14) = true)
    (a15 : PySem.W.nsIn K mainGlobals "_law_drawn" = some (some (.ref f15)))
    (l15 : K.lookup f15 = some ⟨oc15, od15, .func (PySem.W.fnOf "_law_drawn" "_law_drawn" (defArgs s_law_drawn) (defBody s_law_drawn) (defScope s_law_drawn) .none kV15 dc15 pm15 an15 cd15 ct15), sl15⟩)
    (c15 : PySem.W.codeIn K cd15 "_law_drawn" = true)
    (k15 : PySem.W.keepIn K (.ref f15) = true)
    (a16 : PySem.W.nsIn K mainGlobals "_law_walk" = some (some (.ref f16)))
    (l16 : K.lookup f16 = some ⟨oc16, od16, .func (PySem.W.fnOf "_law_walk" "_law_walk" (defArgs s_law_walk) (defBody s_law_walk) (defScope s_law_walk) .none kV16 dc16 pm16 an16 cd16 ct16), sl16⟩)
    (c16 : PySem.W.codeIn K cd16 "_law_walk" = true)
    (k16 : PySem.W.keepIn K (.ref f16) = true)
    (a17 : PySem.W.nsIn K mainGlobals "law" = some (some (.ref f17)))
    (l17 : K.lookup f17 = some ⟨oc17, od17, .func (PySem.W.fnOf "law" "law" (defArgs s_law) (defBody s_law) (defScope s_law) .none kV17 dc17 pm17 an17 cd17 ct17), sl17⟩)
    (c17 : PySem.W.codeIn K cd17 "law" = true)
    (k17 : PySem.W.keepIn K (.ref f17) = true)
    (z0 : PySem.W.nsIn K mainGlobals "len" = some none)
    (z1 : PySem.W.nsIn K mainGlobals "range" = some none)
    (z2 : PySem.W.nsIn K mainGlobals "min" = some none)
    (z3 : PySem.W.nsIn K mainGlobals "max" = some none)
    (z4 : PySem.W.nsIn K mainGlobals "sum" = some none)
    (z5 : PySem.W.nsIn K mainGlobals "sorted" = some none)
    (z6 : PySem.W.nsIn K mainGlobals "set" = some none)
    (z7 : PySem.W.nsIn K mainGlobals "dict" = some none)
    (z8 : PySem.W.nsIn K mainGlobals "list" = some none)
    (z9 : PySem.W.nsIn K mainGlobals "str" = some none)
    (z10 : PySem.W.nsIn K mainGlobals "int" = some none)
    (z11 : PySem.W.nsIn K mainGlobals "isinstance" = some none)
    (z12 : PySem.W.nsIn K mainGlobals "bool" = some none)
    (z13 : PySem.W.nsIn K mainGlobals "tuple" = some none)
    (z14 : PySem.W.nsIn K mainGlobals "ValueError" = some none)
    (nShareError : PySem.W.nsIn K mainGlobals "ShareError" = some (some (.ref CShareError)))
    (e0ShareError : PySem.W.excIn K CShareError veT "ValueError.__new__" = true)
    (e1ShareError : PySem.W.keepIn K (.ref CShareError) = true)
    (e2ShareError : PySem.W.subIn K (.ref CShareError) (.type "BaseException") = some true)
    (e3ShareError : PySem.W.typeIn K (.ref CShareError) = some (.type "type"))
    (nNoFraction : PySem.W.nsIn K mainGlobals "NoFraction" = some (some (.ref CNoFraction)))
    (e0NoFraction : PySem.W.excIn K CNoFraction veT "ValueError.__new__" = true)
    (e1NoFraction : PySem.W.keepIn K (.ref CNoFraction) = true)
    (e2NoFraction : PySem.W.subIn K (.ref CNoFraction) (.type "BaseException") = some true)
    (e3NoFraction : PySem.W.typeIn K (.ref CNoFraction) = some (.type "type"))
    (nNotBelow : PySem.W.nsIn K mainGlobals "NotBelow" = some (some (.ref CNotBelow)))
    (e0NotBelow : PySem.W.excIn K CNotBelow veT "ValueError.__new__" = true)
    (e1NotBelow : PySem.W.keepIn K (.ref CNotBelow) = true)
    (e2NotBelow : PySem.W.subIn K (.ref CNotBelow) (.type "BaseException") = some true)
    (e3NotBelow : PySem.W.typeIn K (.ref CNotBelow) = some (.type "type"))
    : ∃ fd : FuncData, (∀ (s : Shared) (v : Value), BindsTo s fd ⟨[v], []⟩ [("script", v)]) ∧ ∀ base : Heap, K.In base → base.Ns mainGlobals mg → FnOk l.prog w K mg base CX0 6 fa fd ["script"] (sp_law K) := by
  have ef := hfa.symm.trans (PySem.W.mg_of X G a17)
  cases ef
  have B : Bi mg := ⟨PySem.W.mg_none_of X G z0, PySem.W.mg_none_of X G z1, PySem.W.mg_none_of X G z2, PySem.W.mg_none_of X G z3, PySem.W.mg_none_of X G z4, PySem.W.mg_none_of X G z5, PySem.W.mg_none_of X G z6, PySem.W.mg_none_of X G z7, PySem.W.mg_none_of X G z8, PySem.W.mg_none_of X G z9, PySem.W.mg_none_of X G z10, PySem.W.mg_none_of X G z11, PySem.W.mg_none_of X G z12, PySem.W.mg_none_of X G z13, PySem.W.mg_none_of X G z14⟩
  have Er : ErrOk K mg ⟨CShareError, CNoFraction, CNotBelow, 0, 0, 0⟩ := ⟨⟨PySem.W.mg_of X G nShareError, e0ShareError, e1ShareError, e2ShareError, e3ShareError⟩, ⟨PySem.W.mg_of X G nNoFraction, e0NoFraction, e1NoFraction, e2NoFraction, e3NoFraction⟩, ⟨PySem.W.mg_of X G nNotBelow, e0NotBelow, e1NotBelow, e2NotBelow, e3NotBelow⟩⟩
  have S_see : Stands K mg "see" s_see := ⟨_, _, fun_mk (st := s_see) l0 c0 k0, PySem.W.mg_of X G a0⟩
  have S_common : Stands K mg "common" s_common := ⟨_, _, fun_mk (st := s_common) l1 c1 k1, PySem.W.mg_of X G a1⟩
  have S_lowest : Stands K mg "lowest" s_lowest := ⟨_, _, fun_mk (st := s_lowest) l2 c2 k2, PySem.W.mg_of X G a2⟩
  have S_less : Stands K mg "less" s_less := ⟨_, _, fun_mk (st := s_less) l3 c3 k3, PySem.W.mg_of X G a3⟩
  have S_taken : Stands K mg "taken" s_taken := ⟨_, _, fun_mk (st := s_taken) l4 c4 k4, PySem.W.mg_of X G a4⟩
  have S_see_below : Stands K mg "see_below" s_see_below := ⟨_, _, fun_mk (st := s_see_below) l5 c5 k5, PySem.W.mg_of X G a5⟩
  have S_up : Stands K mg "up" s_up := ⟨_, _, fun_mk (st := s_up) l6 c6 k6, PySem.W.mg_of X G a6⟩
  have S_rising_factors : Stands K mg "rising_factors" s_rising_factors := ⟨_, _, fun_mk (st := s_rising_factors) l7 c7 k7, PySem.W.mg_of X G a7⟩
  have S_rising : Stands K mg "rising" s_rising := ⟨_, _, fun_mk (st := s_rising) l8 c8 k8, PySem.W.mg_of X G a8⟩
  have S_law_cell_at : Stands K mg "_law_cell_at" s_law_cell_at := ⟨_, _, fun_mk (st := s_law_cell_at) l9 c9 k9, PySem.W.mg_of X G a9⟩
  have S_law_whole : Stands K mg "_law_whole" s_law_whole := ⟨_, _, fun_mk (st := s_law_whole) l10 c10 k10, PySem.W.mg_of X G a10⟩
  have S_law_common : Stands K mg "_law_common" s_law_common := ⟨_, _, fun_mk (st := s_law_common) l11 c11 k11, PySem.W.mg_of X G a11⟩
  have S_law_lowest : Stands K mg "_law_lowest" s_law_lowest := ⟨_, _, fun_mk (st := s_law_lowest) l12 c12 k12, PySem.W.mg_of X G a12⟩
  have S_law_sum : Stands K mg "_law_sum" s_law_sum := ⟨_, _, fun_mk (st := s_law_sum) l13 c13 k13, PySem.W.mg_of X G a13⟩
  have S_law_list : Stands K mg "_law_list" s_law_list := ⟨_, _, fun_mk (st := s_law_list) l14 c14 k14, PySem.W.mg_of X G a14⟩
  have S_law_drawn : Stands K mg "_law_drawn" s_law_drawn := ⟨_, _, fun_mk (st := s_law_drawn) l15 c15 k15, PySem.W.mg_of X G a15⟩
  have S_law_walk : Stands K mg "_law_walk" s_law_walk := ⟨_, _, fun_mk (st := s_law_walk) l16 c16 k16, PySem.W.mg_of X G a16⟩
  refine ⟨PySem.W.fnOf "law" "law" (defArgs s_law) (defBody s_law) (defScope s_law) .none kV17 dc17 pm17 an17 cd17 ct17, fun s v => .of_eq rfl, fun base _ _ => ?_⟩
  have O_see := ok_see (P := l.prog) (w := w) (base := base) S_see B Er 
  have O_common := ok_common (P := l.prog) (w := w) (base := base) S_common B Er 
  have O_lowest := ok_lowest (P := l.prog) (w := w) (base := base) S_lowest B Er O_see O_common
  have O_less := ok_less (P := l.prog) (w := w) (base := base) S_less B Er O_see
  have O_taken := ok_taken (P := l.prog) (w := w) (base := base) S_taken B Er O_less O_lowest
  have O_see_below := ok_see_below (P := l.prog) (w := w) (base := base) S_see_below B Er O_see
  have O_up := ok_up (P := l.prog) (w := w) (base := base) S_up B Er 
  have O_rising_factors := ok_rising_factors (P := l.prog) (w := w) (base := base) S_rising_factors B Er O_see_below O_lowest O_up O_taken
  have O_rising := ok_rising (P := l.prog) (w := w) (base := base) S_rising B Er O_rising_factors
  have O_law_cell_at := ok_law_cell_at (P := l.prog) (w := w) (base := base) S_law_cell_at B Er 
  have O_law_whole := ok_law_whole (P := l.prog) (w := w) (base := base) S_law_whole B Er 
  have O_law_common := ok_law_common (P := l.prog) (w := w) (base := base) S_law_common B Er 
  have O_law_lowest := ok_law_lowest (P := l.prog) (w := w) (base := base) S_law_lowest B Er O_law_common
  have O_law_sum := ok_law_sum (P := l.prog) (w := w) (base := base) S_law_sum B Er O_law_lowest
  have O_law_list := ok_law_list (P := l.prog) (w := w) (base := base) S_law_list B Er O_law_whole
  have O_law_drawn := ok_law_drawn (P := l.prog) (w := w) (base := base) S_law_drawn B Er O_law_cell_at
  have O_law_walk := ok_law_walk (P := l.prog) (w := w) (base := base) S_law_walk B Er 
  exact ok_law (P := l.prog) (w := w) (base := base) (fun_mk (st := s_law) l17 c17 k17) B Er O_law_drawn O_law_lowest O_law_walk O_rising_factors O_rising O_law_list O_law_sum
end U
open PySem PySem.W PyProof.Rows
set_option maxHeartbeats 0 in
theorem PySem.Challenge.cw_unitshares_k05_whole_rising_factors_holds : PySem.Challenge.rw_unitshares_k05_whole_rising_factors.Holds := by
  w_on; o_law; k_head; (case hw => w_witness2)
  k_fill
  refine L2.walk_of (l := PySem.Challenge.rw_unitshares_k05_whole_rising_factors) (n := 63) (k := 6) (x := "script") (CX := fun _ => L2.CX0) (sp := fun w => U.sp_law _) rfl (by decide) rfl ⟨rfl, by decide, by decide⟩ (fun w h Y => PySem.W.kIn_of Y) ?F (fun _ _ a ns hl _ hS => ⟨a, ns, rfl, hS, hl, fun _ => rfl⟩) (fun _ _ _ _ _ h => h)
  case F =>
    intro w mg fa h KX G hmg
    refine' U.all_mk KX G hmg ?a0 ?l0 ?c0 ?k0 ?a1 ?l1 ?c1 ?k1 ?a2 ?l2 ?c2 ?k2 ?a3 ?l3 ?c3 ?k3 ?a4 ?l4 ?c4 ?k4 ?a5 ?l5 ?c5 ?k5 ?a6 ?l6 ?c6 ?k6 ?a7 ?l7 ?c7 ?k7 ?a8 ?l8 ?c8 ?k8 ?a9 ?l9 ?c9 ?k9 ?a10 ?l10 ?c10 ?k10 ?a11 ?l11 ?c11 ?k11 ?a12 ?l12 ?c12 ?k12 ?a13 ?l13 ?c13 ?k13 ?a14 ?l14 ?c14 ?k14 ?a15 ?l15 ?c15 ?k15 ?a16 ?l16 ?c16 ?k16 ?a17 ?l17 ?c17 ?k17 ?z0 ?z1 ?z2 ?z3 ?z4 ?z5 ?z6 ?z7 ?z8 ?z9 ?z10 ?z11 ?z12 ?z13 ?z14 ?nShareError ?e0ShareError ?e1ShareError ?e2ShareError ?e3ShareError ?nNoFraction ?e0NoFraction ?e1NoFraction ?e2NoFraction ?e3NoFraction ?nNotBelow ?e0NotBelow ?e1NotBelow ?e2NotBelow ?e3NotBelow
    (case a0 => k_is)
    (case l0 => k_is)
    (case c0 => k_is)
    (case k0 => k_is)
    (case a1 => k_is)
    (case l1 => k_is)
    (case c1 => k_is)
    (case k1 => k_is)
    (case a2 => k_is)
    (case l2 => k_is)
    (case c2 => k_is)
    (case k2 => k_is)
    (case a3 => k_is)
    (case l3 => k_is)
    (case c3 => k_is)
    (case k3 => k_is)
    (case a4 => k_is)
    (case l4 => k_is)
    (case c4 => k_is)
    (case k4 => k_is)
    (case a5 => k_is)
    (case l5 => k_is)
    (case c5 => k_is)
    (case k5 => k_is)
    (case a6 => k_is)
    (case l6 => k_is)
    (case c6 => k_is)
    (case k6 => k_is)
    (case a7 => k_is)
    (case l7 => k_is)
    (case c7 => k_is)
    (case k7 => k_is)
    (case a8 => k_is)
    (case l8 => k_is)
    (case c8 => k_is)
    (case k8 => k_is)
    (case a9 => k_is)
    (case l9 => k_is)
    (case c9 => k_is)
    (case k9 => k_is)
    (case a10 => k_is)
    (case l10 => k_is)
    (case c10 => k_is)
    (case k10 => k_is)
    (case a11 => k_is)
    (case l11 => k_is)
    (case c11 => k_is)
    (case k11 => k_is)
    (case a12 => k_is)
    (case l12 => k_is)
    (case c12 => k_is)
    (case k12 => k_is)
    (case a13 => k_is)
    (case l13 => k_is)
    (case c13 => k_is)
    (case k13 => k_is)
    (case a14 => k_is)
    (case l14 => k_is)
    (case c14 => k_is)
    (case k14 => k_is)
    (case a15 => k_is)
    (case l15 => k_is)
    (case c15 => k_is)
    (case k15 => k_is)
    (case a16 => k_is)
    (case l16 => k_is)
    (case c16 => k_is)
    (case k16 => k_is)
    (case a17 => k_is)
    (case l17 => k_is)
    (case c17 => k_is)
    (case k17 => k_is)
    (case z0 => k_is)
    (case z1 => k_is)
    (case z2 => k_is)
    (case z3 => k_is)
    (case z4 => k_is)
    (case z5 => k_is)
    (case z6 => k_is)
    (case z7 => k_is)
    (case z8 => k_is)
    (case z9 => k_is)
    (case z10 => k_is)
    (case z11 => k_is)
    (case z12 => k_is)
    (case z13 => k_is)
    (case z14 => k_is)
    (case nShareError => k_is)
    (case e0ShareError => k_exc)
    (case e1ShareError => k_is)
    (case e2ShareError => k_is)
    (case e3ShareError => k_is)
    (case nNoFraction => k_is)
    (case e0NoFraction => k_exc)
    (case e1NoFraction => k_is)
    (case e2NoFraction => k_is)
    (case e3NoFraction => k_is)
    (case nNotBelow => k_is)
    (case e0NotBelow => k_exc)
    (case e1NotBelow => k_is)
    (case e2NotBelow => k_is)
    (case e3NotBelow => k_is)
