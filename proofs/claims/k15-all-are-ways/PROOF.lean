import PyProof.Rows.All
import Wide.All
import OpenK.AllK
import Wide.FinOn
import HandS.ForMost
import HandS.ForExc
import HandS.More
import HandS.Wide
import HandS.WideBits
import HandS.IsInst
import HandS.SortInts
import HandS.SetFor
import HandS.Strs
import HandS.Zip
import HandS.Deep
import KE.DataCmp
import KE.SortData
import HandS.TupLe
import PySem.Challenge.RW_unitshares_k15_whole_all_are_ways
set_option Elab.async false
set_option linter.all false
set_option maxRecDepth 100000
set_option maxHeartbeats 4000000
namespace U
open PySem PySem.Spec PyProof.Rows L2
def topS (i : Nat) : Stmt := PySem.Challenge.pw_unitshares_k15_whole_all_are_ways.main.body.getD i (.Pass ⟨0, 0, 0, 0⟩)
/-! ### how a def, a class, a built-in stand -/
/-- the module's name x holds the def st -/
def Stands (K : PySem.W.Frag) (mg : Str → Option Value) (x : Str) (st : Stmt) : Prop := ∃ f fd, Fun K x x st f fd ∧ mg x = some (.ref f)
/-- the def x keeps the promise sp -/
def Keeps (P : Program) (w : World) (K : PySem.W.Frag) (mg : Str → Option Value) (base : Heap) (k : Nat) (x : Str) (ps : List Str) (sp : Sp) : Prop :=
  ∃ f fd, FnOk P w K mg base (L2.CX P w) k f fd ps sp ∧ Binds K fd ps [] ∧ mg x = some (.ref f) ∧ PySem.W.keepIn K (.ref f) = true
/-- nothing leaves, so whatever leaves is as one likes -/
theorem toX {P : Program} {w : World} {K : PySem.W.Frag} {mg : Str → Option Value} {base : Heap} {k : Nat} {f : Addr} {fd : FuncData} {ps : List Str} {sp : Sp} (F : FnOk P w K mg base CX0 k f fd ps sp) : FnOk P w K mg base (L2.CX P w) k f fd ps sp :=
  ⟨F.len, fun A outer s H args us vs Q E hr e0 hb r h => codeAny_mono (F.run A outer s H args us vs Q E hr e0 hb r h) fun r s' q => by
    cases r with
    | error e => exact False.elim q
    | ok fl => cases fl <;> exact q⟩
structure Bi (mg : Str → Option Value) : Prop where
  len : mg "len" = none
  range : mg "range" = none
  min : mg "min" = none
  max : mg "max" = none
  sum : mg "sum" = none
  sorted : mg "sorted" = none
  set : mg "set" = none
  dict : mg "dict" = none
  list : mg "list" = none
  str : mg "str" = none
  int : mg "int" = none
  isinstance : mg "isinstance" = none
  bool : mg "bool" = none
  tuple : mg "tuple" = none
  ValueError : mg "ValueError" = none
abbrev veT : List Value := [.type "ValueError", .type "Exception", .type "BaseException", .type "object"]
/-! ### heaps -/
theorem same_new {H : Hp} {p : Addr} {o : HO} (h : H p = none) : Same H (upd H p o) := fun b x e => by
  rw [upd_ne (ne_of_none e h)]
  exact e
/-- an object that H does not know is written -/
theorem same_mut {H H' : Hp} {p : Addr} {o : HO} (s : Same H H') (h : H p = none) : Same H (upd H' p o) := fun b x e => by
  rw [upd_ne (ne_of_none e h)]
  exact s b x e
theorem same_tup {K : PySem.W.Frag} {H H' : Hp} {a : Addr} {xs : List V} (e : Same H H') (h : SqT K H a xs) : SqT K H' a xs := by
  rcases h with (h | ⟨o, h⟩) | h
  · exact .inl (.inl (e _ _ h))
  · exact .inl (.inr ⟨o, e _ _ h⟩)
  · exact .inr h
theorem ty_list {K : PySem.W.Frag} {H : Hp} {a : Addr} {xs : List V} (h : SqL K H a xs) : TyX K H (.ref a) (.type "list") := by
  rcases h with (h | ⟨o, h⟩) | ⟨o, _, _, h, c, _⟩
  · exact .base (.lst h)
  · exact .base (.frz h)
  · exact .kList h c
theorem ty_tup {K : PySem.W.Frag} {H : Hp} {a : Addr} {xs : List V} (h : SqT K H a xs) : TyX K H (.ref a) (.type "tuple") := by
  rcases h with (h | ⟨o, h⟩) | ⟨o, _, _, h, c, _⟩
  · exact .base (.tup h)
  · exact .fTuple h
  · exact .kTuple h c
theorem szl {n : Nat} (h : n ≤ 16000000) : n ≤ sizeLine := Nat.le_trans h (by decide)
theorem szl_lt {n : Nat} (h : n < 16000000) : n < sizeLine := Nat.lt_of_lt_of_le h (by decide)
theorem get_map {α β : Type} {f : α → β} {l : List α} {i : Nat} {x : α} (h : l[i]? = some x) : (l.map f)[i]? = some (f x) := by
  rw [List.getElem?_map, h] <;> rfl
theorem of_get_map {α β : Type} {f : α → β} {l : List α} {i : Nat} {y : β} (h : (l.map f)[i]? = some y) : ∃ x, l[i]? = some x ∧ y = f x := by
  rw [List.getElem?_map] at h
  cases e : l[i]? with
  | none => rw [e] at h; cases h
  | some x => rw [e] at h; exact ⟨x, rfl, (Option.some.inj h).symm⟩
theorem take_snoc {α : Type} {l : List α} {i : Nat} {x : α} (h : l[i]? = some x) : l.take (i + 1) = l.take i ++ [x] := by
  rw [List.take_add_one, h] <;> rfl
theorem lt_of_get {α : Type} {l : List α} {i : Nat} {x : α} (h : l[i]? = some x) : i < l.length := (List.getElem?_eq_some_iff.mp h).1
/-- 1, 2, .., n -/
def upto (n : Nat) : List Int := (List.range n).map fun (i : Nat) => 1 + (i : Int)
theorem upto_succ (n : Nat) : upto (n + 1) = upto n ++ [1 + (n : Int)] := by
  unfold upto
  rw [List.range_succ, List.map_append] <;> rfl
theorem upto_length (n : Nat) : (upto n).length = n := by
  unfold upto
  rw [List.length_map, List.length_range]
theorem mem_upto {n : Nat} {x : Int} : x ∈ upto n ↔ 1 ≤ x ∧ x ≤ n := by
  unfold upto
  rw [List.mem_map]
  constructor
  · rintro ⟨i, hi, rfl⟩
    have := List.mem_range.mp hi
    omega
  · rintro ⟨h1, h2⟩
    exact ⟨(x - 1).toNat, List.mem_range.mpr (by omega), by omega⟩
theorem cw_mul {i j : Int} {a b : Nat} (ha : i.natAbs < 2 ^ a) (hb : j.natAbs < 2 ^ b) (h0 : 0 < a := by decide) (h1 : 0 < b := by decide) (h : a + b ≤ 1000000 := by decide) : CMulW i j := wide_mul ha hb h0 h1 h
/-- // by a positive divisor, where it is told that C divides by itself -/
theorem op_fdivP {X : Cx} : OpR X (binaryOp .FloorDiv) (rI CDivP fun i j => .int (i / j)) := opI fun i j _ _ _ _ _ hc q => by
  have h1 : (0 : Int) < j := hc.1
  exact floordiv_int (by omega) (by rw [Int.fdiv_eq_ediv_of_nonneg i (by omega)]; exact q) (.inl hc.2)
theorem cdp_of {i j : Int} (h : CDivW i j) : CDivP i j := ⟨h.1, PyProof.noPylong_of_log2 h.2⟩
theorem cw_div {i j : Int} {b : Nat} (h : 0 < j) (hb : j.natAbs < 2 ^ b) (h0 : 0 < b := by decide) (h9 : b ≤ 9000 := by decide) : CDivP i j := cdp_of (wide_div h hb h0 h9)
theorem fil_yes {α : Type} {q : α → Prop} [DecidablePred q] {l : List α} {x : α} (h : q x) : (l ++ [x]).filter (fun k => decide (q k)) = l.filter (fun k => decide (q k)) ++ [x] := by
  rw [List.filter_append]
  congr 1
  simp [h]
theorem fil_no {α : Type} {q : α → Prop} [DecidablePred q] {l : List α} {x : α} (h : ¬ q x) : (l ++ [x]).filter (fun k => decide (q k)) = l.filter (fun k => decide (q k)) := by
  rw [List.filter_append]
  simp [h]
/-- what holds behind a statement, its ways joined -/
theorem cut {t R : TS} {D : Ends} {σ : L2.St} {H : Hp} (Pm : L2.St → Hp → Prop) (h1 : ∀ (R : TS) (D : Ends), (∀ σ' H', Pm σ' H' → R D σ' H') → tSeq t R D σ H) (h2 : ∀ σ' H', Pm σ' H' → R D σ' H') : tSeq t R D σ H := h1 R D h2
/-- name = constant -/
theorem asg_c {v : V} {i : Nat} {R : TS} {D : Ends} {σ : L2.St} {H : Hp} (h : R D (σ.set i (some v)) H) : tSeq (tAsg (tC v) (gName i)) R D σ H := h
theorem snoc_ind {α : Type} (P : List α → Prop) (l : List α) (h0 : P []) (hs : ∀ l x, P l → P (l ++ [x])) : P l := by
  have : ∀ r : List α, P r.reverse := fun r => by
    induction r with
    | nil => exact h0
    | cons x r ih =>
      rw [List.reverse_cons]
      exact hs _ _ ih
  have := this l.reverse
  rwa [List.reverse_reverse] at this

/-! ### sizes, by bits -/
/-- x has at most n bits -/
def Sz (n : Nat) (x : Int) : Prop := x.natAbs < 2 ^ n
theorem Sz.mono {a b : Nat} {x : Int} (h : Sz a x) (l : a ≤ b := by decide) : Sz b x := Nat.lt_of_lt_of_le h (Nat.pow_le_pow_right (by decide) l)
theorem Sz.le {a : Nat} {x y : Int} (h : Sz a y) (h0 : 0 ≤ x) (l : x ≤ y) : Sz a x := Nat.lt_of_le_of_lt (by omega : x.natAbs ≤ y.natAbs) h
theorem Sz.mul {a b : Nat} {x y : Int} (h : Sz a x) (g : Sz b y) : Sz (a + b) (x * y) := by
  unfold Sz
  rw [Int.natAbs_mul, Nat.pow_add]
  exact Nat.mul_lt_mul'' h g
theorem Sz.add {a : Nat} {x y : Int} (h : Sz a x) (g : Sz a y) : Sz (a + 1) (x + y) := by
  have h : x.natAbs < 2 ^ a := h
  have g : y.natAbs < 2 ^ a := g
  show (x + y).natAbs < 2 ^ (a + 1)
  rw [Nat.pow_succ]
  omega
theorem Sz.sub {a : Nat} {x y : Int} (h : Sz a x) (g : Sz a y) : Sz (a + 1) (x - y) := by
  have h : x.natAbs < 2 ^ a := h
  have g : y.natAbs < 2 ^ a := g
  show (x - y).natAbs < 2 ^ (a + 1)
  rw [Nat.pow_succ]
  omega
theorem Sz.cm {a b : Nat} {i j : Int} (ha : Sz a i) (hb : Sz b j) (h0 : 0 < a := by decide) (h1 : 0 < b := by decide) (h : a + b ≤ 1000000 := by decide) : CMulW i j := wide_mul ha hb h0 h1 h
theorem Sz.cd {b : Nat} {i j : Int} (hb : Sz b j) (h : 0 < j) (h0 : 0 < b := by decide) (h9 : b ≤ 9000 := by decide) : CDivP i j := cw_div h hb h0 h9
theorem Sz.lit {a : Nat} {x : Int} (h : x.natAbs < 2 ^ a := by decide) : Sz a x := h
theorem Sz.one {a : Nat} (h : 0 < a := by decide) : Sz a 1 := Nat.one_lt_two_pow (by omega)
theorem Sz.zero {a : Nat} : Sz a 0 := Nat.pow_pos (by decide)
/-- a dividend not much greater than its divisor -/
theorem cdp_near {i j : Int} {k : Nat} (hj : 0 < j) (h : i.natAbs ≤ 2 ^ k * j.natAbs) (hk : k ≤ 3000 := by decide) : CDivP i j := by
  refine divp_ok hj ?_
  have b1 : j.natAbs < 2 ^ (j.natAbs.log2 + 1) := Nat.lt_log2_self
  have b2 : i.natAbs < 2 ^ (k + (j.natAbs.log2 + 1)) := by
    rw [Nat.pow_add]
    exact Nat.lt_of_le_of_lt h (Nat.mul_lt_mul_of_pos_left b1 (Nat.pow_pos (by decide)))
  have b3 := PyProof.Rows.intBits_le b2
  have b4 : Builtin.Int.intBits j = j.natAbs.log2 + 1 := by
    unfold Builtin.Int.intBits
    rw [if_neg (by simpa using (show j ≠ 0 by omega))]
  omega

--: math = sz
/-! ### lowest terms -/
def gc (a b : Int) : Int := ((Int.gcd a b : Nat) : Int)
def low (t b : Int) : Int × Int := (t / gc t b, b / gc t b)
theorem gc_nn (a b : Int) : 0 ≤ gc a b := Int.natCast_nonneg _
theorem gc_pos {t b : Int} (h : 1 ≤ b) : 0 < gc t b := by
  have : Int.gcd t b ≠ 0 := fun z => by
    have := (Int.gcd_eq_zero_iff.mp z).2
    omega
  unfold gc
  omega
theorem gc_dl (t b : Int) : gc t b ∣ t := Int.gcd_dvd_left ..
theorem gc_dr (t b : Int) : gc t b ∣ b := Int.gcd_dvd_right ..
theorem gc_le {t b : Int} (h : 1 ≤ b) : gc t b ≤ b := Int.le_of_dvd (by omega) (gc_dr t b)
theorem low_t (t b : Int) : (low t b).1 * gc t b = t := Int.ediv_mul_cancel (gc_dl t b)
theorem low_b (t b : Int) : (low t b).2 * gc t b = b := Int.ediv_mul_cancel (gc_dr t b)
theorem low_bpos {t b : Int} (h : 1 ≤ b) : 1 ≤ (low t b).2 := by
  have g := gc_pos (t := t) h
  have e := low_b t b
  by_cases z : 1 ≤ (low t b).2
  · exact z
  · have : (low t b).2 * gc t b ≤ 0 := Int.mul_nonpos_of_nonpos_of_nonneg (by omega) (by omega)
    omega
theorem low_tnn {t b : Int} (h : 1 ≤ b) (h0 : 0 ≤ t) : 0 ≤ (low t b).1 := Int.ediv_nonneg h0 (gc_nn t b)
theorem low_ble {t b : Int} (h : 1 ≤ b) : (low t b).2 ≤ b := Int.ediv_le_self _ (by omega)
theorem low_tle {t b : Int} (h0 : 0 ≤ t) : (low t b).1 ≤ t := Int.ediv_le_self _ h0
theorem low_cross (t b : Int) : t * (low t b).2 = (low t b).1 * b := by
  have h1 := low_t t b
  have h2 := low_b t b
  calc t * (low t b).2 = (low t b).1 * gc t b * (low t b).2 := by rw [h1]
    _ = (low t b).1 * ((low t b).2 * gc t b) := by rw [Int.mul_assoc, Int.mul_comm (gc t b)]
    _ = (low t b).1 * b := by rw [h2]
theorem low_scale {t b k : Int} (h : 0 < k) : low (t * k) (b * k) = low t b := by
  unfold low gc
  rw [Int.gcd_mul_right, Int.natCast_mul, Int.natAbs_of_nonneg (by omega), Int.mul_ediv_mul_of_pos_left _ _ h, Int.mul_ediv_mul_of_pos_left _ _ h]
theorem low_uniq {t b t' b' : Int} (h : 0 < b) (h' : 0 < b') (e : t * b' = t' * b) : low t b = low t' b' := by
  rw [← low_scale (t := t) (b := b) h', ← low_scale (t := t') (b := b') h, e, Int.mul_comm b b']
theorem low_low {t b : Int} (h : 1 ≤ b) : low (low t b).1 (low t b).2 = low t b :=
  low_uniq (by have := low_bpos (t := t) h; omega) (by omega) (low_cross t b).symm
theorem low_of_eq {t b t' b' : Int} (h : 1 ≤ b) (e : low t b = low t' b') : t * b' = t' * b := by
  have c1 := low_cross t b
  have c2 := low_cross t' b'
  rw [← e] at c2
  have hb := low_bpos (t := t) h
  refine Int.eq_of_mul_eq_mul_right (a := (low t b).2) (by omega) ?_
  calc t * b' * (low t b).2 = t * (low t b).2 * b' := by rw [Int.mul_assoc, Int.mul_comm b', Int.mul_assoc]
    _ = (low t b).1 * b' * b := by rw [c1, Int.mul_assoc, Int.mul_comm b, ← Int.mul_assoc]
    _ = t' * b * (low t b).2 := by rw [← c2, Int.mul_assoc, Int.mul_comm _ b, ← Int.mul_assoc]
theorem gc_step {x y : Int} : gc y (x % y) = gc x y := by
  unfold gc
  rw [Int.gcd_comm x y]
  have h := Int.gcd_add_mul_left_right y (x % y) (x / y)
  rw [Int.emod_add_mul_ediv] at h
  rw [h]
theorem gc_zero {x : Int} (h : 0 ≤ x) : gc x 0 = x := by
  unfold gc
  rw [Int.gcd_zero_right]
  omega
/-- what _law_lowest's two divisions ask -/
theorem low_divs {t b : Int} (hb : 1 ≤ b) (z : Sz 9000 b) : CDivP t (gc t b) ∧ CDivP b (gc t b) := by
  have g := gc_pos (t := t) hb
  have zg : Sz 9000 (gc t b) := z.le (by omega) (gc_le hb)
  exact ⟨zg.cd g, zg.cd g⟩
theorem low_near {t b : Int} (hb : 1 ≤ b) (h1 : Sz 3000 (low t b).1) (h2 : Sz 3000 (low t b).2) : CDivP t (gc t b) ∧ CDivP b (gc t b) := by
  have g := gc_pos (t := t) hb
  have e1 := congrArg Int.natAbs (low_t t b)
  have e2 := congrArg Int.natAbs (low_b t b)
  rw [Int.natAbs_mul] at e1 e2
  have h1 : (low t b).1.natAbs < 2 ^ 3000 := h1
  have h2 : (low t b).2.natAbs < 2 ^ 3000 := h2
  refine ⟨cdp_near (k := 3000) g ?_, cdp_near (k := 3000) g ?_⟩
  · rw [← e1]
    exact Nat.mul_le_mul_right _ (Nat.le_of_lt h1)
  · rw [← e2]
    exact Nat.mul_le_mul_right _ (Nat.le_of_lt h2)

--: math = low
/-! ### sums of shares -/
def sumS (xs : List Int) : Int × Int := xs.foldl (fun p s => (p.1 * s + p.2, p.2 * s)) (0, 1)
/-- the sum of the shares, in lowest terms -/
def lowS (xs : List Int) : Int × Int := low (sumS xs).1 (sumS xs).2
/-- shares: none below one -/
def Pos (xs : List Int) : Prop := ∀ x ∈ xs, (1 : Int) ≤ x
theorem sumS_snoc (xs : List Int) (s : Int) : sumS (xs ++ [s]) = ((sumS xs).1 * s + (sumS xs).2, (sumS xs).2 * s) := by
  unfold sumS
  rw [List.foldl_append] <;> rfl
theorem sumS_nil : sumS [] = (0, 1) := rfl
theorem low_01 : low 0 1 = (0, 1) := by decide
theorem lowS_nil : lowS [] = (0, 1) := low_01
theorem Pos.snoc {xs : List Int} {s : Int} (h : Pos (xs ++ [s])) : Pos xs ∧ 1 ≤ s :=
  ⟨fun x hx => h x (List.mem_append_left _ hx), h s (List.mem_append_right _ List.mem_cons_self)⟩
theorem sumS_pos (xs : List Int) : Pos xs → 0 ≤ (sumS xs).1 ∧ 1 ≤ (sumS xs).2 ∧ (sumS xs).1 ≤ xs.length * (sumS xs).2 := by
  refine snoc_ind (fun xs => Pos xs → 0 ≤ (sumS xs).1 ∧ 1 ≤ (sumS xs).2 ∧ (sumS xs).1 ≤ xs.length * (sumS xs).2) xs (fun _ => ⟨by decide, by decide, by decide⟩) (fun l x ih h => ?_)
  obtain ⟨h1, h2⟩ := h.snoc
  obtain ⟨a, b, c⟩ := ih h1
  rw [sumS_snoc, List.length_append]
  have p1 : 0 ≤ (sumS l).1 * x := Int.mul_nonneg a (by omega)
  have p2 : 0 < (sumS l).2 * x := Int.mul_pos (by omega) (by omega)
  refine ⟨by show 0 ≤ (sumS l).1 * x + (sumS l).2; omega, p2, ?_⟩
  show (sumS l).1 * x + (sumS l).2 ≤ ((l.length + 1 : Nat) : Int) * ((sumS l).2 * x)
  have q1 : (sumS l).1 * x ≤ l.length * (sumS l).2 * x := Int.mul_le_mul_of_nonneg_right c (by omega)
  have q2 : (sumS l).2 * 1 ≤ (sumS l).2 * x := Int.mul_le_mul_of_nonneg_left h2 (by omega)
  rw [Int.natCast_add, Int.add_mul, ← Int.mul_assoc]
  omega
theorem pos_take {xs : List Int} (h : Pos xs) (i : Nat) : Pos (xs.take i) := fun x hx => h x (List.mem_of_mem_take hx)
theorem sumS_append_le (ys xs : List Int) : Pos (xs ++ ys) → (sumS xs).2 ≤ (sumS (xs ++ ys)).2 := by
  refine snoc_ind (fun ys => Pos (xs ++ ys) → (sumS xs).2 ≤ (sumS (xs ++ ys)).2) ys (fun _ => ?_) (fun l x ih h => ?_)
  · rw [List.append_nil]
    exact Int.le_refl _
  · rw [← List.append_assoc] at h ⊢
    obtain ⟨h1, h2⟩ := h.snoc
    have a := ih h1
    have b := (sumS_pos _ h1).2.1
    rw [sumS_snoc (xs ++ l)]
    show (sumS xs).2 ≤ (sumS (xs ++ l)).2 * x
    have : (sumS (xs ++ l)).2 * 1 ≤ (sumS (xs ++ l)).2 * x := Int.mul_le_mul_of_nonneg_left h2 (by omega)
    omega
theorem sumS_take_le {xs : List Int} (h : Pos xs) (i : Nat) : (sumS (xs.take i)).2 ≤ (sumS xs).2 := by
  have := sumS_append_le (xs.drop i) (xs.take i)
  rw [List.take_append_drop] at this
  exact this h
/-- sizes within a sum -/
structure SumOk (xs : List Int) : Prop where
  pos : Pos xs
  sz : Sz 4000 (sumS xs).2
  len : xs.length ≤ 1000
theorem SumOk.take {xs : List Int} (h : SumOk xs) (i : Nat) : SumOk (xs.take i) where
  pos := pos_take h.pos i
  sz := h.sz.le (by have := (sumS_pos _ (pos_take h.pos i)).2.1; omega) (sumS_take_le h.pos i)
  len := by
    have := h.len
    rw [List.length_take]
    omega
theorem SumOk.top {xs : List Int} (h : SumOk xs) : Sz 4010 (sumS xs).1 := by
  obtain ⟨a, b, c⟩ := sumS_pos _ h.pos
  have hl : Sz 10 (xs.length : Int) := by
    have := h.len
    show (xs.length : Int).natAbs < 1024
    omega
  exact (hl.mul h.sz).mono.le a c
theorem SumOk.item {xs : List Int} (h : SumOk xs) {i : Nat} {s : Int} (e : xs[i]? = some s) : 1 ≤ s ∧ Sz 4000 s := by
  have hs : 1 ≤ s := h.pos s (List.mem_of_getElem? e)
  have k := (h.take (i + 1)).sz
  rw [List.take_add_one, e] at k
  have k : Sz 4000 (sumS (xs.take i ++ [s])).2 := k
  rw [sumS_snoc] at k
  have b := (sumS_pos _ (pos_take h.pos i)).2.1
  refine ⟨hs, Sz.le k (by omega) ?_⟩
  show s ≤ (sumS (xs.take i)).2 * s
  have : 1 * s ≤ (sumS (xs.take i)).2 * s := Int.mul_le_mul_of_nonneg_right b (by omega)
  omega
theorem low_step {t b s : Int} (hb : 1 ≤ b) (hs : 1 ≤ s) : low ((low t b).1 * s + 1 * (low t b).2) ((low t b).2 * s) = low (t * s + b) (b * s) := by
  have h := low_bpos (t := t) hb
  have p1 : 0 < (low t b).2 * s := Int.mul_pos (by omega) (by omega)
  have p2 : 0 < b * s := Int.mul_pos (by omega) (by omega)
  refine low_uniq p1 p2 ?_
  have c := low_cross t b
  generalize (low t b).1 = x at *
  generalize (low t b).2 = y at *
  have c2 : t * y * (s * s) = x * b * (s * s) := by rw [c]
  simp only [Int.add_mul, Int.mul_add, Int.one_mul] at *
  simp only [Int.mul_comm, Int.mul_left_comm, Int.mul_assoc] at *
  omega
theorem lowS_snoc {xs : List Int} {s : Int} (h : Pos xs) (hs : 1 ≤ s) : low ((lowS xs).1 * s + 1 * (lowS xs).2) ((lowS xs).2 * s) = lowS (xs ++ [s]) := by
  unfold lowS
  rw [low_step (sumS_pos _ h).2.1 hs, sumS_snoc]
theorem prod_sz {m : Nat} (xs : List Int) : (∀ x ∈ xs, (1 : Int) ≤ x ∧ Sz m x) → Sz (m * xs.length + 1) (sumS xs).2 := by
  refine snoc_ind (fun xs => (∀ x ∈ xs, (1 : Int) ≤ x ∧ Sz m x) → Sz (m * xs.length + 1) (sumS xs).2) xs (fun _ => Sz.one (by show 0 < m * 0 + 1; omega)) (fun l x ih h => ?_)
  have h1 := ih fun y hy => h y (List.mem_append_left _ hy)
  have h2 := (h x (List.mem_append_right _ List.mem_cons_self)).2
  rw [sumS_snoc, List.length_append]
  exact (h1.mul h2).mono (by show m * l.length + 1 + m ≤ m * (l.length + 1) + 1; rw [Nat.mul_add]; omega)
theorem cm_prod {x y : Int} {n : Nat} (hx : 0 ≤ x) (hy : 1 ≤ y) (h : Sz n (x * y)) (h2 : Sz n y) (h0 : 0 < n := by decide) (hn : n ≤ 1000000 := by decide) : CMulW x y := by
  unfold CMulW
  by_cases z : x = 0
  · subst z
    have := PySem.Flt.log2_lt_of h0 h2
    have e : (0 : Int).natAbs.log2 = 0 := by decide
    omega
  · have a := Nat.log2_self_le (n := x.natAbs) (by omega)
    have b := Nat.log2_self_le (n := y.natAbs) (by omega)
    have c : 2 ^ (x.natAbs.log2 + y.natAbs.log2) < 2 ^ n := by
      rw [Nat.pow_add]
      refine Nat.lt_of_le_of_lt (Nat.mul_le_mul a b) ?_
      rw [← Int.natAbs_mul]
      exact h
    have := (Nat.pow_lt_pow_iff_right (by decide : 1 < 2)).mp c
    omega
/-- sizes within a sum, great ones -/
structure SumC (xs : List Int) : Prop where
  pos : Pos xs
  sz : Sz 600000 (sumS xs).2
  len : xs.length ≤ 1000
  d1 : CDivP (sumS xs).1 (gc (sumS xs).1 (sumS xs).2)
  d2 : CDivP (sumS xs).2 (gc (sumS xs).1 (sumS xs).2)
theorem SumOk.c {xs : List Int} (h : SumOk xs) : SumC xs := by
  obtain ⟨a, b, c⟩ := sumS_pos _ h.pos
  have g := gc_pos (t := (sumS xs).1) b
  have z : Sz 9000 (gc (sumS xs).1 (sumS xs).2) := (h.sz.mono : Sz 9000 _).le (by omega) (gc_le b)
  exact ⟨h.pos, h.sz.mono, h.len, z.cd g, z.cd g⟩
theorem SumC.at {xs : List Int} (h : SumC xs) (i : Nat) : Sz 600000 (sumS (xs.take i)).2 ∧ Sz 600010 (sumS (xs.take i)).1 := by
  obtain ⟨a, b, c⟩ := sumS_pos _ (pos_take h.pos i)
  have s2 : Sz 600000 (sumS (xs.take i)).2 := h.sz.le (by omega) (sumS_take_le h.pos i)
  have hl : Sz 10 ((xs.take i).length : Int) := by
    have := h.len
    have : (xs.take i).length ≤ xs.length := by rw [List.length_take]; omega
    show ((xs.take i).length : Int).natAbs < 1024
    omega
  exact ⟨s2, (hl.mul s2).mono.le a c⟩
theorem SumC.step {xs : List Int} (h : SumC xs) {i : Nat} {s : Int} (e : xs[i]? = some s) : CMulW (sumS (xs.take i)).1 s ∧ CMulW (sumS (xs.take i)).2 s := by
  have hs : 1 ≤ s := h.pos s (List.mem_of_getElem? e)
  obtain ⟨a, b, c⟩ := sumS_pos _ (pos_take h.pos i)
  have k := h.at (i + 1)
  rw [take_snoc e, sumS_snoc] at k
  obtain ⟨k1, k2⟩ := k
  have k1 : Sz 600000 ((sumS (xs.take i)).2 * s) := k1
  have k2 : Sz 600010 ((sumS (xs.take i)).1 * s + (sumS (xs.take i)).2) := k2
  have p1 : 0 ≤ (sumS (xs.take i)).1 * s := Int.mul_nonneg a (by omega)
  have s1 : s ≤ (sumS (xs.take i)).2 * s := by
    have : 1 * s ≤ (sumS (xs.take i)).2 * s := Int.mul_le_mul_of_nonneg_right b (by omega)
    omega
  have zs : Sz 600000 s := k1.le (by omega) s1
  exact ⟨cm_prod (n := 600010) a hs (k2.le p1 (by omega)) zs.mono, cm_prod (n := 600000) (by omega) hs k1 zs⟩

/-! ### set(xs) of a list of ints -/
section
variable {P : Program} {w : World} {A : Around} {E : Value → Shared → Prop}
/-- a set that was just made -/
abbrev bare (w : World) : Obj := { cls := .type "set", dict := none, data := .set #[] 0 (.fresh 0 0 (!w.params.followText "set-order")) }
/-- what set.__init__ leaves of s, the set at a: it holds the ints, all of g is kept -/
def Filled (w : World) (s : Shared) (g : Heap) (a : Addr) (ns : List Int) (v : Value) (s' : Shared) : Prop :=
  v = .none ∧ ∃ h tk c, s' = { s with heap := h, toks := tk } ∧ SetR w h a (fun j => decide (j ∈ ns)) c ∧ c ≤ ns.length ∧ ∀ b o, g.get? b = some o → h.get? b = some o
/-- the filling, over the list's own iterator -/
theorem fill_list {g : Heap} {s : Shared} {l : Addr} {its : Array Value} {ns : List Int} (hs : s.heap = (g.push (bare w)).push { cls := .type "list_iterator", data := .fields #[.ref l, .int 0 0] }) (hh : A.handled = none)
    (hl : g.IsList l its) (hi : IntsAre its.toList ns) (hn : its.size = ns.length) (hb : ns.length + 1 < scanBound) {R : Result → Shared → Prop} (hr : ∀ s', Filled w s g g.objs.size ns .none s' → R (.ok (.ret .none)) s') :
    codeAny (model P w) A (.builtin "set.update.loop" ⟨[.ref g.objs.size, .ref (g.objs.size + 1)], []⟩) R s := by
  have lt : l < g.objs.size := by
    obtain ⟨o, e, _⟩ := hl
    exact Heap.lt_size e
  have z1 : (g.push (bare w)).objs.size = g.objs.size + 1 := Heap.size_push ..
  have a0 : (g.push (bare w)).get? g.objs.size = some (bare w) := Heap.get?_push_size _ rfl
  have apart : g.objs.size ∉ [g.objs.size + 1, l] := by
    intro m
    rcases List.mem_cons.mp m with e | m
    · exact Nat.ne_of_lt (Nat.lt_succ_self _) e
    · exact Nat.ne_of_gt lt (List.mem_singleton.mp m)
  have val : ∀ (i : Nat) (v : Value), its[i]? = some v → ∃ k t, ns[i]? = some k ∧ v = .int k t := fun i v e => by
    have hi' : i < ns.length := hn ▸ (Array.getElem?_eq_some_iff.mp e).1
    obtain ⟨t, q⟩ := IntsAre.int_at hi i v (by rw [Array.getElem?_toList]; exact e)
    have d : ns.getD i 0 = ns[i] := by rw [List.getD_eq_getElem?_getD, List.getElem?_eq_getElem hi'] <;> rfl
    exact ⟨ns[i], t, List.getElem?_eq_getElem hi', by rw [q, d]⟩
  have hh1 : A.in1.handled = none := hh
  have hl1 : (g.push (bare w)).IsList l its := hl.push _
  obtain ⟨hp, gg, d, tk, os⟩ := s
  have hs : hp = (g.push (bare w)).push { cls := .type "list_iterator", data := .fields #[.ref l, .int 0 0] } := hs
  subst hs
  have W := (Walks.list (prog := P) (w := w) hh1 (g.objs.size + 1) l (Nat.ne_of_lt (Nat.lt_succ_of_lt lt)) its).toS
  refine set_update_ints W g.objs.size apart ns hn hb val (its.size - 0) 0 _ (by omega) (Nat.zero_le _) ?_ ⟨0, Nat.le_refl 0, setR_new_at (Heap.get?_push_of_some _ a0)⟩ fun s' c m hc hR => ?_
  · exact ⟨⟨_, by rw [← z1]; exact Heap.get?_push_size _ rfl, rfl, rfl⟩, hl1.push _⟩
  · obtain ⟨h', g2, d2, tk2, os2⟩ := s'
    cases (m.gens : g2 = gg)
    cases (m.drawn : d2 = d)
    cases (m.os : os2 = os)
    refine hr _ ⟨rfl, h', tk2, c, rfl, hR, hn ▸ hc, fun b o e => ?_⟩
    have hb' := Heap.lt_size e
    refine m.heap b o (fun z => ?_) (Heap.get?_push_of_some _ (Heap.get?_push_of_some _ e))
    rcases List.mem_cons.mp z with z | z
    · exact Nat.ne_of_lt hb' z
    · exact Nat.ne_of_lt (Nat.lt_succ_of_lt hb') (List.mem_singleton.mp z)
set_option maxHeartbeats 3200000 in
theorem init_list {g : Heap} {s : Shared} {l : Addr} {its : Array Value} {ns : List Int} (hs : s.heap = g.push (bare w)) (hh : A.handled = none) (hl : g.IsList l its) (hi : IntsAre its.toList ns) (hn : its.size = ns.length) (hb : ns.length + 1 < scanBound) :
    codeAny (model P w) A (.call (.builtin "set.__init__") ⟨[.ref g.objs.size, .ref l], []⟩) (wants (Filled w s g g.objs.size ns) E) s := by
  have here : s.heap.get? g.objs.size = some (bare w) := by
    rw [hs]
    exact Heap.get?_push_size _ rfl
  have ty : s.TypeIs (.ref g.objs.size) "set" := ⟨_, here, rfl⟩
  have hl1 : s.heap.IsList l its := by
    rw [hs]
    exact hl.push _
  refine codeAny_call_builtin F.called_set.init.plain F.entry_set_init (check_set_init_1 ty ?_)
  obtain ⟨ol, gl, cl, nl, dl⟩ := id hl1
  obtain ⟨ocls, odict, odata, oslots⟩ := ol
  simp only at cl dl
  subst cl dl
  have n1 := F.sub_list_set
  have n2 := F.sub_list_frozenset
  have n3 : (Value.type "list" == Value.type "dict") = false := by decide
  obtain ⟨hp, gg, d, tk, os⟩ := s
  dsimp only at hs here gl hl1 ty
  subst hs
  unfold Builtin.«set.__init__» noKeywords Builtin.Frozenset.updateFrom
  generalize eI : pyIter = it
  wp_walk
  subst eI
  refine wpAny_pyIter_list hl1 ?_
  refine wpAny_bind (wpAny_runValue ?_)
  have z1 : (g.push (bare w)).objs.size = g.objs.size + 1 := Heap.size_push ..
  rw [z1]
  refine fill_list (g := g) rfl (by simpa using hh) hl hi hn hb fun s' f => ?_
  obtain ⟨_, h', tk', c, rfl, r⟩ := f
  show wpAny _ _ _ _ _ _
  refine wpAny_pure ?_
  show wpAny _ _ (ret Value.none) _ _ _
  exact wpAny_pure ⟨rfl, h', tk', c, rfl, r⟩
set_option maxHeartbeats 3200000 in
theorem set_of_list {s : Shared} {l : Addr} {its : Array Value} {ns : List Int} (hh : A.handled = none) (hl : s.heap.IsList l its) (hi : IntsAre its.toList ns) (hb : ns.length + 1 < scanBound) {Q : Value → Shared → Prop}
    (hq : ∀ (h : Heap) (tk c : Nat), SetR w h s.heap.objs.size (fun j => decide (j ∈ ns)) c → c ≤ ns.length → (∀ b o, s.heap.get? b = some o → h.get? b = some o) → Q (.ref s.heap.objs.size) { s with heap := h, toks := tk }) :
    wpAny (model P w) A (call (.type "set") [.ref l]) Q E s := by
  have hn : its.size = ns.length := by
    have q := IntsAre.length hi
    rwa [Array.length_toList] at q
  obtain ⟨c, tl, hmro⟩ := F.called_set.mro
  have f1 := F.called_set.made
  have f2 := F.called_set.sub
  have f3 := F.called_set.notType
  have f4 := F.called_set.canCreate
  have f5 := F.typeCall_set_1 (.ref l)
  refine wpAny_call (codeAny_of_tree ?_)
  show wpAny _ _ (callAny (.type "set") _) _ _ _
  refine wpAny_pure ⟨Code.quiet_builtin _ (by decide +kernel), codeAny_builtin F.entry_type_call ?_⟩
  rw [Around.under_plain (weight_type_call_type "set" [.ref l] []) rfl]
  repeat (any_goals (first | assumption | wp_step))
  refine codeAny_mono (code_set_led1 (w := w) (.ref l) (E := E) (Q₁ := fun u s₁ => u = .ref s.heap.objs.size ∧ s₁ = { s with heap := s.heap.push (bare w) }) ⟨rfl, rfl⟩) fun r s₁ hr => ?_
  cases r with
  | error e => exact hr
  | ok fl =>
    cases fl with
    | ret u =>
      obtain ⟨rfl, rfl⟩ := hr
      have here : (s.heap.push (bare w)).get? s.heap.objs.size = some (bare w) := Heap.get?_push_size _ rfl
      have ty : Shared.TypeIs { s with heap := s.heap.push (bare w) } (.ref s.heap.objs.size) "set" := ⟨_, here, rfl⟩
      have g1 := F.called_set.init.lookup
      have g2 := F.called_set.init.bind (.ref s.heap.objs.size)
      repeat (any_goals (first | assumption | wp_step))
      refine codeAny_mono (init_list (s := { s with heap := s.heap.push (bare w) }) rfl hh hl hi hn hb (E := E)) fun r₂ s₂ h₂ => ?_
      cases r₂ with
      | error e => exact h₂
      | ok f2 =>
        cases f2 with
        | ret v =>
          obtain ⟨rfl, h', tk', c', rfl, hR, hc, hk⟩ := h₂
          repeat (any_goals (first | assumption | wp_step))
          exact hq _ _ _ hR hc hk
        | next => exact h₂.elim
        | brk => exact h₂.elim
        | cont => exact h₂.elim
    | next => exact hr.elim
    | brk => exact hr.elim
    | cont => exact hr.elim
end
/-- set(xs) -/
def rSetL (K : PySem.W.Frag) (w : World) : List V → Hp → VK → Prop := fun vs H Q => ∃ (l : Addr) (ns : List Int), vs = [V.ref l] ∧ SqL K H l (ns.map V.int) ∧ ns.length < 4000 ∧
  ∀ (p : Addr) (c : Nat), H p = none → c ≤ ns.length → Q (.ref p) (upd H p (SetO w p (fun j => decide (j ∈ ns)) c))
theorem cr_setL {X : Cx} (hc : X.calm = true) : CallR X (.type "set") (rSetL X.K X.w) := by
  intro pins s σ H vs us Q I r h
  obtain ⟨l, ns, rfl, hS, hn, q⟩ := h
  obtain ⟨u, rfl, ru⟩ := vals1 r
  cases ru
  obtain ⟨its, rv, pl, hz⟩ := I.list hS
  refine set_of_list (I.ok.hd hc) pl.isList (ns := ns) (by simpa using RZ.intsAre_vals rv) (by unfold scanBound; omega) fun h tk c hR hc' hk => ?_
  exact ⟨.ref _, _, I.laid (t' := tk) (a := s.heap.objs.size) hk (Nat.le_refl _) (setO_new hR), rfl, q _ c (I.hok.fresh (Nat.le_refl _)) hc'⟩

/-! ### pairs of ints, compared -/
theorem dp_pair {K : PySem.W.Frag} {H : Hp} {a : Addr} {t u : Int} (h : SqT K H a [.int t, .int u]) : Dp K H (.ref a) (.tuple [.int t, .int u]) := .tup h (.cons (.int t) (.cons (.int u) .nil))
theorem eqv_pair (t u t' u' : Int) : PyData.eqv (.tuple [.int t, .int u]) (.tuple [.int t', .int u']) = decide (t = t' ∧ u = u') := by
  simp [PyData.eqv, PyData.eqvAll, Bool.decide_and]
  rfl

--: math = setlist
--: math = pairs
/-! ### lists that rise -/
def Ris (xs : List Int) : Prop := xs.Pairwise (· < ·)
instance (xs : List Int) : Decidable (Ris xs) := inferInstanceAs (Decidable (xs.Pairwise _))
theorem ris_uniq : ∀ {a b : List Int}, Ris a → Ris b → (∀ k, k ∈ a ↔ k ∈ b) → a = b
  | [], [], _, _, _ => rfl
  | [], y :: b, _, _, h => absurd ((h y).mpr List.mem_cons_self) (by simp)
  | x :: a, [], _, _, h => absurd ((h x).mp List.mem_cons_self) (by simp)
  | x :: a, y :: b, ha, hb, h => by
    obtain ⟨a1, a2⟩ := List.pairwise_cons.mp ha
    obtain ⟨b1, b2⟩ := List.pairwise_cons.mp hb
    have e : x = y := by
      rcases List.mem_cons.mp ((h x).mp List.mem_cons_self) with e | m
      · exact e
      · rcases List.mem_cons.mp ((h y).mpr List.mem_cons_self) with e | m'
        · exact e.symm
        · have := b1 x m
          have := a1 y m'
          omega
    subst e
    refine congrArg (x :: ·) (ris_uniq a2 b2 fun k => ⟨fun m => ?_, fun m => ?_⟩)
    · rcases List.mem_cons.mp ((h k).mp (List.mem_cons_of_mem _ m)) with e | m'
      · have := a1 k m
        omega
      · exact m'
    · rcases List.mem_cons.mp ((h k).mpr (List.mem_cons_of_mem _ m)) with e | m'
      · have := b1 k m
        omega
      · exact m'
theorem ris_adj {xs : List Int} (h : ∀ (j : Nat) (x y : Int), xs[j]? = some x → xs[j + 1]? = some y → x < y) : Ris xs := by
  refine List.pairwise_iff_getElem.mpr fun i j hi hj hij => ?_
  obtain ⟨d, rfl⟩ : ∃ d, j = i + 1 + d := ⟨j - (i + 1), by omega⟩
  induction d with
  | zero => exact h i _ _ (List.getElem?_eq_getElem hi) (List.getElem?_eq_getElem hj)
  | succ d ih =>
    have h1 := ih (by omega) (by omega)
    have h2 := h (i + 1 + d) _ _ (List.getElem?_eq_getElem (by omega)) (List.getElem?_eq_getElem hj)
    omega
theorem ris_at {xs : List Int} (h : Ris xs) {j : Nat} {x y : Int} (e1 : xs[j]? = some x) (e2 : xs[j + 1]? = some y) : x < y := by
  obtain ⟨h1, rfl⟩ := List.getElem?_eq_some_iff.mp e1
  obtain ⟨h2, rfl⟩ := List.getElem?_eq_some_iff.mp e2
  exact List.pairwise_iff_getElem.mp h j (j + 1) h1 h2 (by omega)
/-! ### data of ints, compared -/
theorem dp_ints {K : PySem.W.Frag} {H : Hp} {a : Addr} {xs : List Int} (h : SqL K H a (xs.map V.int)) : Dp K H (.ref a) (.list (xs.map PyData.int)) := by
  refine .lst h ?_
  clear h
  induction xs with
  | nil => exact .nil
  | cons x xs ih => exact .cons (.int x) ih
theorem eqvAll_ints : ∀ xs ys : List Int, PyData.eqvAll (xs.map PyData.int) (ys.map PyData.int) = decide (xs = ys)
  | [], [] => by simp [PyData.eqvAll]
  | [], y :: ys => by simp [PyData.eqvAll]
  | x :: xs, [] => by simp [PyData.eqvAll]
  | x :: xs, y :: ys => by
    have ih := eqvAll_ints xs ys
    simp only [List.map_cons, PyData.eqvAll, PyData.eqv, ih]
    rw [Bool.eq_iff_iff]
    simp
theorem eqv_ints (xs ys : List Int) : PyData.eqv (.list (xs.map PyData.int)) (.list (ys.map PyData.int)) = decide (xs = ys) := by
  rw [← eqvAll_ints]
  simp only [PyData.eqv]
theorem canLay_ints : ∀ xs : List Int, PyData.canLayAll0 (xs.map PyData.int) = true
  | [] => rfl
  | x :: xs => by
    simp only [List.map_cons, PyData.canLayAll0, PyData.canLay0, canLay_ints xs]
    rfl
theorem depth_ints : ∀ xs : List Int, PyData.depthAll (xs.map PyData.int) = 0
  | [] => rfl
  | x :: xs => by
    simp only [List.map_cons, PyData.depthAll, PyData.depth, depth_ints xs]
    rfl
theorem shaped_ints (xs : List Int) : SeqAt.shaped (.list (xs.map PyData.int)) = true := by
  unfold SeqAt.shaped
  simp only [PyData.canLay0, PyData.depth, canLay_ints, depth_ints]
  rfl

--: math = sums
/-! ### rising factors -/
/-- the least number that is no less than t / b -/
def upF (t b : Int) : Int := (t + b - 1) / b
theorem upF_hi {B T : Int} (h : 1 ≤ T) : B ≤ upF B T * T := by
  have e := Int.emod_add_mul_ediv (B + T - 1) T
  have l := Int.emod_lt_of_pos (B + T - 1) (b := T) (by omega)
  rw [Int.mul_comm] at e
  unfold upF
  omega
theorem upF_lo {B T : Int} (h : 1 ≤ T) : (upF B T - 1) * T < B := by
  have e := Int.emod_add_mul_ediv (B + T - 1) T
  have l := Int.emod_nonneg (B + T - 1) (b := T) (by omega)
  rw [Int.mul_comm] at e
  unfold upF
  rw [Int.sub_mul]
  omega
theorem upF_uniq {B T n : Int} (h : 1 ≤ T) (h1 : (n - 1) * T < B) (h2 : B ≤ n * T) : upF B T = n := by
  have a := upF_hi (B := B) h
  have b := upF_lo (B := B) h
  have c1 : upF B T - 1 < n := Int.lt_of_mul_lt_mul_right (Int.lt_of_lt_of_le b h2) (by omega)
  have c2 : n - 1 < upF B T := Int.lt_of_mul_lt_mul_right (Int.lt_of_lt_of_le h1 a) (by omega)
  omega
theorem upF_two {B T : Int} (h : 1 ≤ T) (hb : T < B) : 2 ≤ upF B T := by
  have a := upF_hi (B := B) h
  by_cases c : 2 ≤ upF B T
  · exact c
  · have : upF B T * T ≤ 1 * T := Int.mul_le_mul_of_nonneg_right (by omega) (by omega)
    omega
theorem upF_le {B T : Int} (h : 1 ≤ T) (hb : 1 ≤ B) : upF B T ≤ B := by
  have b := upF_lo (B := B) h
  by_cases c : upF B T ≤ B
  · exact c
  · have : B * T ≤ (upF B T - 1) * T := Int.mul_le_mul_of_nonneg_right (by omega) (by omega)
    have : B * 1 ≤ B * T := Int.mul_le_mul_of_nonneg_left h (by omega)
    omega
theorem upF_pos {B T : Int} (h : 1 ≤ T) (hb : 1 ≤ B) : 1 ≤ upF B T := by
  have a := upF_hi (B := B) h
  by_cases c : 1 ≤ upF B T
  · exact c
  · have : upF B T * T ≤ 0 * T := Int.mul_le_mul_of_nonneg_right (by omega) (by omega)
    omega
/-- what is left of the top -/
def nxt (T B : Int) : Int := T * upF B T - B
theorem nxt_nn {T B : Int} (h : 1 ≤ T) : 0 ≤ nxt T B := by
  have a := upF_hi (B := B) h
  unfold nxt
  rw [Int.mul_comm]
  omega
theorem nxt_lt {T B : Int} (h : 1 ≤ T) : nxt T B < T := by
  have b := upF_lo (B := B) h
  rw [Int.sub_mul] at b
  unfold nxt
  rw [Int.mul_comm]
  omega
def rf : Nat → Int → Int → List Int
  | 0, _, _ => []
  | k + 1, T, B => if T ≤ 0 then [] else upF B T :: rf k (nxt T B) B
/-- the numbers of the rising factors of T / B -/
def rfs (T B : Int) : List Int := rf T.toNat T B
theorem rf_fuel : ∀ (k : Nat) (T B : Int), T.toNat ≤ k → rf k T B = rf T.toNat T B
  | 0, T, B, h => by
    have e : T.toNat = 0 := by omega
    rw [e]
  | k + 1, T, B, h => by
    by_cases c : T ≤ 0
    · have e : T.toNat = 0 := by omega
      rw [e]
      show (if T ≤ 0 then [] else _) = _
      rw [if_pos c] <;> rfl
    · obtain ⟨m, em⟩ : ∃ m, T.toNat = m + 1 := ⟨T.toNat - 1, by omega⟩
      have l := nxt_lt (T := T) (B := B) (by omega)
      rw [em]
      show (if T ≤ 0 then [] else upF B T :: rf k (nxt T B) B) = (if T ≤ 0 then [] else upF B T :: rf m (nxt T B) B)
      rw [rf_fuel k (nxt T B) B (by omega), rf_fuel m (nxt T B) B (by omega)]
theorem rfs_nil {T B : Int} (h : T ≤ 0) : rfs T B = [] := by
  have e : T.toNat = 0 := by omega
  unfold rfs
  rw [e] <;> rfl
theorem rfs_cons {T B : Int} (h : 1 ≤ T) : rfs T B = upF B T :: rfs (nxt T B) B := by
  obtain ⟨m, em⟩ : ∃ m, T.toNat = m + 1 := ⟨T.toNat - 1, by omega⟩
  have l := nxt_lt (T := T) (B := B) h
  unfold rfs
  rw [em]
  show (if T ≤ 0 then [] else upF B T :: rf m (nxt T B) B) = _
  rw [if_neg (by omega), rf_fuel m (nxt T B) B (by omega)]
/-- by what is left -/
theorem rfs_ind (P : Int → Prop) {B : Int} (h0 : ∀ T, T ≤ 0 → P T) (hs : ∀ T, 1 ≤ T → P (nxt T B) → P T) : ∀ T, P T := fun T => by
  have : ∀ (k : Nat) (T : Int), T.toNat ≤ k → P T := fun k => by
    induction k with
    | zero => exact fun T h => h0 T (by omega)
    | succ k ih =>
      intro T h
      by_cases c : T ≤ 0
      · exact h0 T c
      · have l := nxt_lt (T := T) (B := B) (by omega)
        exact hs T (by omega) (ih _ (by omega))
  exact this _ T (Nat.le_refl _)
theorem upF_rel {T B t b : Int} (hT : 1 ≤ T) (ht : 1 ≤ t) (hB : 1 ≤ B) (hb : 1 ≤ b) (e : T * b = t * B) : upF B T = upF b t := by
  have a1 := upF_hi (B := b) ht
  have a2 := upF_lo (B := b) ht
  generalize upF b t = n at *
  refine upF_uniq hT ?_ ?_
  · refine Int.lt_of_mul_lt_mul_right (a := b) ?_ (by omega)
    have : (n - 1) * T * b = (n - 1) * t * B := by rw [Int.mul_assoc, e, ← Int.mul_assoc]
    rw [this, Int.mul_comm B b]
    exact Int.mul_lt_mul_of_pos_right a2 (by omega)
  · refine Int.le_of_mul_le_mul_right (a := b) ?_ (by omega)
    have : n * T * b = n * t * B := by rw [Int.mul_assoc, e, ← Int.mul_assoc]
    rw [this, Int.mul_comm B b]
    exact Int.mul_le_mul_of_nonneg_right a1 (by omega)
theorem rfs_rel {B b : Int} (hB : 1 ≤ B) (hb : 1 ≤ b) : ∀ (T t : Int), 0 ≤ T → 0 ≤ t → T * b = t * B → rfs T B = rfs t b := by
  refine rfs_ind (B := B) (fun T => ∀ t, 0 ≤ T → 0 ≤ t → T * b = t * B → rfs T B = rfs t b) (fun T h t h0 h1 e => ?_) (fun T h ih t h0 h1 e => ?_)
  · have z : T = 0 := by omega
    subst z
    rw [Int.zero_mul] at e
    have zt : t = 0 := (Int.mul_eq_zero.mp e.symm).resolve_right (by omega)
    subst zt
    rw [rfs_nil (Int.le_refl 0), rfs_nil (Int.le_refl 0)]
  · have ht : 1 ≤ t := by
      by_cases z : t = 0
      · rw [z, Int.zero_mul] at e
        have := Int.mul_pos (a := T) (b := b) (by omega) (by omega)
        omega
      · omega
    have eu := upF_rel h ht hB hb e
    rw [rfs_cons h, rfs_cons ht, eu]
    congr 1
    refine ih _ (nxt_nn h) (nxt_nn ht) ?_
    unfold nxt
    rw [eu, Int.sub_mul, Int.sub_mul, Int.mul_right_comm, e, Int.mul_right_comm, Int.mul_comm b B]
/-- each is two or more, none falls, none above B -/
theorem rfs_low {B : Int} (hB : 1 ≤ B) : ∀ T, T < B → (∀ n ∈ rfs T B, 2 ≤ n ∧ n ≤ B) ∧ (rfs T B).Pairwise (· ≤ ·) ∧ (1 ≤ T → ∀ n ∈ rfs T B, upF B T ≤ n) := by
  refine rfs_ind (B := B) (fun T => T < B → (∀ n ∈ rfs T B, 2 ≤ n ∧ n ≤ B) ∧ (rfs T B).Pairwise (· ≤ ·) ∧ (1 ≤ T → ∀ n ∈ rfs T B, upF B T ≤ n)) (fun T h _ => ?_) (fun T h ih hT => ?_)
  · rw [rfs_nil h]
    exact ⟨fun _ m => (nomatch m), List.Pairwise.nil, fun _ _ m => (nomatch m)⟩
  · have l := nxt_lt (B := B) h
    obtain ⟨i1, i2, i3⟩ := ih (by omega)
    have up : ∀ n ∈ rfs (nxt T B) B, upF B T ≤ n := fun n hn => by
      by_cases c : 1 ≤ nxt T B
      · have a := i3 c n hn
        have b1 := upF_hi (B := B) c
        have b2 := upF_lo (B := B) h
        have : (upF B T - 1) * nxt T B ≤ (upF B T - 1) * T := Int.mul_le_mul_of_nonneg_left (by omega) (by have := upF_two h hT; omega)
        have : (upF B T - 1) * nxt T B < upF B (nxt T B) * nxt T B := by omega
        have := Int.lt_of_mul_lt_mul_right this (by omega)
        omega
      · rw [rfs_nil (by omega)] at hn
        cases hn
    rw [rfs_cons h]
    refine ⟨fun n hn => ?_, List.pairwise_cons.mpr ⟨up, i2⟩, fun _ n hn => ?_⟩
    · rcases List.mem_cons.mp hn with rfl | m
      · exact ⟨upF_two h hT, upF_le h hB⟩
      · exact i1 n m
    · rcases List.mem_cons.mp hn with rfl | m
      · exact Int.le_refl _
      · exact up n m
theorem rfs_len {B : Int} : ∀ T, 0 ≤ T → ((rfs T B).length : Int) ≤ T := by
  refine rfs_ind (B := B) (fun T => 0 ≤ T → ((rfs T B).length : Int) ≤ T) (fun T h h0 => ?_) (fun T h ih _ => ?_)
  · rw [rfs_nil h]
    exact h0
  · have l := nxt_lt (B := B) h
    have := ih (nxt_nn h)
    rw [rfs_cons h, List.length_cons]
    omega

--: math = sz
/-! ### the text of a number -/
theorem ns_none {K : PySem.W.Frag} {h : Heap} {a : Addr} {m : Str → Option Value} {n : Str} (X : K.In h) (G : h.Ns a m) (e : PySem.W.nsIn K a n = some none) : m n = none := by
  obtain ⟨o, rows, fill, there, isD, _, says⟩ := G
  revert e
  unfold PySem.W.nsIn
  split
  · rename_i q
    have q := (X _ _ q).symm.trans there
    cases q
    cases isD
    intro e
    split at e
    · cases e
    · rename_i none
      rw [← says, nsFind, PySem.findBy, ← Array.find?_toList, none]
      rfl
  · exact fun e => nomatch e
/-- str(n), below the line that the interpreter draws -/
theorem call_str_big {X : Cx} (hc : X.calm = true) (hd : PySem.W.nsIn X.K cStatics "sys.int_max_str_digits" = some none) : CallR X (.type "str") (fun xs H Q => ∃ i, xs = [.int i] ∧ i.natAbs < 10 ^ 4300 ∧ Q (.str (toString i)) H) := by
  intro pins s σ H xs us Q I r h
  obtain ⟨i, rfl, hz, q⟩ := h
  obtain ⟨u, rfl, t, rfl⟩ := vals1 r
  obtain ⟨mc, ns, _⟩ := I.nolimit
  exact str_of_int_or (I.ok.hd hc) ⟨mc, ns, ns_none I.kIn ns hd⟩ (fun _ => ⟨.str _, H, I.tok _, ⟨_, rfl⟩, q⟩) (fun z => absurd hz (Nat.not_lt.mpr z))
/-- how many signs a number has -/
def slen (i : Int) : Nat := (Str.ofString (toString i)).length
theorem slen_le {i : Int} (h : 0 ≤ i) {k : Nat} (hk : 0 < k) : slen i ≤ k ↔ i.natAbs < 10 ^ k := by
  obtain ⟨n, rfl⟩ := Int.eq_ofNat_of_zero_le h
  unfold slen
  rw [PySem.ofString_length]
  exact Nat.length_repr_le_iff hk
theorem ten400 : (10 ^ 400 : Nat) < 2 ^ 1330 := by decide +kernel
theorem big4300 : (2 ^ 2700 : Nat) < 10 ^ 4300 := by decide +kernel
/-- more than 400 figures -/
def Big (i : Int) : Prop := 400 < slen i
instance (i : Int) : Decidable (Big i) := inferInstanceAs (Decidable (400 < slen i))
theorem not_big {i : Int} (h : 0 ≤ i) (b : ¬ Big i) : Sz 1330 i := Nat.lt_trans ((slen_le h (by decide)).mp (Nat.not_lt.mp b)) ten400
theorem slen_fits {i : Int} (h : 0 ≤ i) (z : Sz 2700 i) : slen i ≤ sizeLine := Nat.le_trans ((slen_le (k := 4300) h (by decide)).mpr (Nat.lt_trans z big4300)) (szl (by decide))
theorem big_dec {i : Int} : decide ((400 : Int) < ((Str.ofString (toString i)).length : Int)) = decide (Big i) := by
  refine decide_eq_decide.mpr ?_
  unfold Big slen
  omega

--: math = rf
--: math = digits
/-! ### the greatest share first -/
/-- what is left, in lowest terms -/
def lft (T B : Int) : Int × Int := low (nxt T B) (B * upF B T)
/-- the shares, or None where one has too great a number -/
def gw : Nat → Int → Int → Option (List Int)
  | 0, _, _ => some []
  | k + 1, T, B => if T ≤ 0 then some [] else if Big (upF B T) then none else (gw k (lft T B).1 (lft T B).2).map (upF B T :: ·)
def gws (T B : Int) : Option (List Int) := gw T.toNat T B
theorem lft_b {T B : Int} (h : 1 ≤ T) (hB : 1 ≤ B) : 1 ≤ (lft T B).2 := low_bpos (Int.mul_pos (by omega) (by have := upF_pos (B := B) (T := T) h hB; omega))
theorem lft_nn {T B : Int} (h : 1 ≤ T) (hB : 1 ≤ B) : 0 ≤ (lft T B).1 := low_tnn (Int.mul_pos (by omega) (by have := upF_pos (B := B) (T := T) h hB; omega)) (nxt_nn h)
theorem lft_lt {T B : Int} (h : 1 ≤ T) : (lft T B).1 < T := Int.lt_of_le_of_lt (low_tle (nxt_nn h)) (nxt_lt h)
theorem lft_cross (T B : Int) : nxt T B * (lft T B).2 = (lft T B).1 * (B * upF B T) := low_cross _ _
theorem lft_below {T B : Int} (h : 1 ≤ T) (hB : 1 ≤ B) (hT : T < B) : (lft T B).1 < (lft T B).2 := by
  have s2 := upF_two h hT
  have l := nxt_lt (B := B) h
  have c := lft_cross T B
  have p := lft_b h hB
  have q : 0 < B * upF B T := Int.mul_pos (by omega) (by omega)
  refine Int.lt_of_mul_lt_mul_right (a := B * upF B T) ?_ (by omega)
  rw [← c, Int.mul_comm]
  refine Int.mul_lt_mul_of_pos_left ?_ (by omega)
  have : B * 1 ≤ B * upF B T := Int.mul_le_mul_of_nonneg_left (by omega) (by omega)
  omega
/-- behind a share n the next one's number is above n * (n - 1) -/
theorem lft_grow {T B : Int} (h : 1 ≤ T) (hB : 1 ≤ B) (hT : T < B) (hl : 1 ≤ (lft T B).1) : upF B T * (upF B T - 1) < upF (lft T B).2 (lft T B).1 := by
  have lo := upF_lo (B := B) h
  have s2 := upF_two h hT
  have c := lft_cross T B
  have hi := upF_hi (B := (lft T B).2) hl
  generalize upF (lft T B).2 (lft T B).1 = m at *
  generalize (lft T B).1 = T' at *
  have b1 := lft_b h hB
  generalize (lft T B).2 = B' at *
  have nx : nxt T B = T * upF B T - B := rfl
  generalize upF B T = n at *
  rw [nx] at c
  -- (T n - B) B' = T' B n, B' <= m T', (n - 1) T < B
  have np : 0 < T * n - B := by
    by_cases z : 0 < T * n - B
    · exact z
    · have a : (T * n - B) * B' ≤ 0 := Int.mul_nonpos_of_nonpos_of_nonneg (by omega) (by omega)
      have b : 0 < T' * (B * n) := Int.mul_pos (by omega) (Int.mul_pos (by omega) (by omega))
      omega
  have k : n * (n - 1) * ((T * n - B) * B') < m * ((T * n - B) * B') := by
    have e1 : m * ((T * n - B) * B') = m * T' * (B * n) := by rw [c, Int.mul_assoc]
    have e2 : n * (n - 1) * ((T * n - B) * B') = (n - 1) * (T * n - B) * (B' * n) := by
      simp only [Int.mul_comm, Int.mul_left_comm, Int.mul_assoc]
    rw [e1, e2]
    have e3 : (n - 1) * (T * n - B) < B := by
      have : (n - 1) * (T * n - B) = n * ((n - 1) * T) - (n - 1) * B := by
        rw [Int.mul_sub]
        congr 1
        simp only [Int.mul_comm, Int.mul_left_comm, Int.mul_assoc]
      have q1 : n * ((n - 1) * T) < n * B := Int.mul_lt_mul_of_pos_left lo (by omega)
      have q2 : (n - 1) * B = n * B - B := by rw [Int.sub_mul, Int.one_mul]
      omega
    have e4 : (n - 1) * (T * n - B) * (B' * n) < B * (B' * n) := Int.mul_lt_mul_of_pos_right e3 (Int.mul_pos (by omega) (by omega))
    have e5 : B * (B' * n) ≤ m * T' * (B * n) := by
      have : B * (B' * n) = B' * (B * n) := by simp only [Int.mul_comm, Int.mul_left_comm, Int.mul_assoc]
      rw [this]
      exact Int.mul_le_mul_of_nonneg_right hi (Int.mul_nonneg (by omega) (by omega))
    omega
  exact Int.lt_of_mul_lt_mul_right k (Int.le_of_lt (Int.mul_pos np (by omega)))
theorem gw_fuel : ∀ (k : Nat) (T B : Int), T.toNat ≤ k → gw k T B = gw T.toNat T B
  | 0, T, B, h => by
    have e : T.toNat = 0 := by omega
    rw [e]
  | k + 1, T, B, h => by
    by_cases c : T ≤ 0
    · have e : T.toNat = 0 := by omega
      rw [e]
      show (if T ≤ 0 then some [] else _) = _
      rw [if_pos c] <;> rfl
    · obtain ⟨m, em⟩ : ∃ m, T.toNat = m + 1 := ⟨T.toNat - 1, by omega⟩
      have l := lft_lt (T := T) (B := B) (by omega)
      rw [em]
      show (if T ≤ 0 then some [] else if Big (upF B T) then none else (gw k (lft T B).1 (lft T B).2).map (upF B T :: ·)) = (if T ≤ 0 then some [] else if Big (upF B T) then none else (gw m (lft T B).1 (lft T B).2).map (upF B T :: ·))
      rw [gw_fuel k (lft T B).1 (lft T B).2 (by omega), gw_fuel m (lft T B).1 (lft T B).2 (by omega)]
theorem gws_nil {T B : Int} (h : T ≤ 0) : gws T B = some [] := by
  have e : T.toNat = 0 := by omega
  unfold gws
  rw [e] <;> rfl
theorem gws_step {T B : Int} (h : 1 ≤ T) : gws T B = if Big (upF B T) then none else (gws (lft T B).1 (lft T B).2).map (upF B T :: ·) := by
  obtain ⟨m, em⟩ : ∃ m, T.toNat = m + 1 := ⟨T.toNat - 1, by omega⟩
  have l := lft_lt (T := T) (B := B) h
  unfold gws
  rw [em]
  show (if T ≤ 0 then some [] else if Big (upF B T) then none else (gw m (lft T B).1 (lft T B).2).map (upF B T :: ·)) = _
  rw [if_neg (by omega), gw_fuel m (lft T B).1 (lft T B).2 (by omega)]
theorem gws_big {T B : Int} (h : 1 ≤ T) (b : Big (upF B T)) : gws T B = none := by rw [gws_step h, if_pos b]
theorem gws_cons {T B : Int} (h : 1 ≤ T) (b : ¬ Big (upF B T)) : gws T B = (gws (lft T B).1 (lft T B).2).map (upF B T :: ·) := by rw [gws_step h, if_neg b]
/-- by what is left, while no number is too great -/
theorem gws_ind (P : Int → Int → List Int → Prop) (h0 : ∀ T B, T ≤ 0 → 1 ≤ B → P T B []) (hs : ∀ T B xs, 1 ≤ T → T < B → ¬ Big (upF B T) → gws (lft T B).1 (lft T B).2 = some xs → P (lft T B).1 (lft T B).2 xs → P T B (upF B T :: xs)) :
    ∀ T B xs, 1 ≤ B → T < B → gws T B = some xs → P T B xs := fun T B xs => by
  have : ∀ (k : Nat) (T B : Int) (xs : List Int), T.toNat ≤ k → 1 ≤ B → T < B → gws T B = some xs → P T B xs := fun k => by
    induction k with
    | zero =>
      intro T B xs h hB _ e
      rw [gws_nil (by omega)] at e
      cases e
      exact h0 T B (by omega) hB
    | succ k ih =>
      intro T B xs h hB hT e
      by_cases c : T ≤ 0
      · rw [gws_nil c] at e
        cases e
        exact h0 T B c hB
      · have l := lft_lt (T := T) (B := B) (by omega)
        by_cases b : Big (upF B T)
        · rw [gws_big (by omega) b] at e
          cases e
        · rw [gws_cons (by omega) b] at e
          cases g : gws (lft T B).1 (lft T B).2 with
          | none =>
            rw [g] at e
            cases e
          | some ys =>
            rw [g] at e
            cases e
            exact hs T B ys (by omega) hT b g (ih _ _ _ (by omega) (lft_b (by omega) hB) (lft_below (by omega) hB hT) g)
  exact this _ T B xs (Nat.le_refl _)
theorem gws_len : ∀ T B xs, 1 ≤ B → T < B → gws T B = some xs → 0 ≤ T → (xs.length : Int) ≤ T := by
  refine gws_ind (fun T B xs => 0 ≤ T → (xs.length : Int) ≤ T) (fun T B h _ h0 => h0) (fun T B xs h hT _ _ ih _ => ?_)
  have l := lft_lt (T := T) (B := B) h
  have := ih (lft_nn h (by omega))
  rw [List.length_cons]
  omega
/-- each two or more, and each above n * (n - 1) for the n ahead -/
def Grows : List Int → Prop
  | x :: y :: r => x * (x - 1) < y ∧ Grows (y :: r)
  | _ => True
theorem gws_first {T B : Int} {x : Int} {xs : List Int} (e : gws T B = some (x :: xs)) : 1 ≤ T ∧ x = upF B T := by
  by_cases c : T ≤ 0
  · rw [gws_nil c] at e
    cases e
  · have c : 1 ≤ T := by omega
    refine ⟨c, ?_⟩
    by_cases b : Big (upF B T)
    · rw [gws_big c b] at e
      cases e
    · rw [gws_cons c b] at e
      cases g : gws (lft T B).1 (lft T B).2 with
      | none =>
        rw [g] at e
        cases e
      | some ys =>
        rw [g] at e
        cases e
        rfl
theorem gws_grows : ∀ T B xs, 1 ≤ B → T < B → gws T B = some xs → (∀ x ∈ xs, 2 ≤ x) ∧ Grows xs := by
  refine gws_ind (fun T B xs => (∀ x ∈ xs, 2 ≤ x) ∧ Grows xs) (fun T B h _ => ⟨fun _ m => (nomatch m), True.intro⟩) (fun T B xs h hT b g ih => ?_)
  refine ⟨fun x m => ?_, ?_⟩
  · rcases List.mem_cons.mp m with rfl | m
    · exact upF_two h hT
    · exact ih.1 x m
  · cases xs with
    | nil => exact True.intro
    | cons y r =>
      obtain ⟨l1, rfl⟩ := gws_first g
      exact ⟨lft_grow h (by omega) hT l1, ih.2⟩
theorem grows_at : ∀ {xs : List Int} {j : Nat} {x y : Int}, Grows xs → xs[j]? = some x → xs[j + 1]? = some y → x * (x - 1) < y
  | [], _, _, _, _, e, _ => nomatch e
  | [a], 0, _, _, _, _, e => nomatch e
  | [a], j + 1, _, _, _, e, _ => nomatch e
  | a :: b :: r, 0, x, y, h, e1, e2 => by
    cases e1
    cases e2
    exact h.1
  | a :: b :: r, j + 1, x, y, h, e1, e2 => grows_at (xs := b :: r) (j := j) h.2 e1 e2
theorem fold_gws : ∀ T B xs, 1 ≤ B → T < B → gws T B = some xs → 0 ≤ T → ∀ u v : Int, (xs.foldl (fun q s => (q.1 * s + q.2, q.2 * s)) (u, v)).1 * (v * B) = (u * B + T * v) * (xs.foldl (fun q s => (q.1 * s + q.2, q.2 * s)) (u, v)).2 := by
  refine gws_ind (fun T B xs => 0 ≤ T → ∀ u v : Int, (xs.foldl (fun q s => (q.1 * s + q.2, q.2 * s)) (u, v)).1 * (v * B) = (u * B + T * v) * (xs.foldl (fun q s => (q.1 * s + q.2, q.2 * s)) (u, v)).2) (fun T B h _ h0 u v => ?_) (fun T B xs h hT b g ih _ u v => ?_)
  · have z : T = 0 := by omega
    subst z
    rw [Int.zero_mul, Int.add_zero]
    show u * (v * B) = u * B * v
    rw [Int.mul_comm v B, Int.mul_assoc u]
  · have n1 := upF_pos (B := B) h (by omega)
    have l1 := lft_b h (by omega : 1 ≤ B)
    have e := ih (lft_nn h (by omega)) (u * upF B T + v) (v * upF B T)
    have c := lft_cross T B
    have nx : nxt T B = T * upF B T - B := rfl
    rw [nx] at c
    show (List.foldl _ (u * upF B T + v, v * upF B T) xs).1 * (v * B) = (u * B + T * v) * (List.foldl _ (u * upF B T + v, v * upF B T) xs).2
    revert e
    generalize List.foldl (fun q s => (q.1 * s + q.2, q.2 * s)) (u * upF B T + v, v * upF B T) xs = X
    generalize (lft T B).1 = T' at *
    generalize (lft T B).2 = B' at *
    generalize upF B T = n at *
    obtain ⟨x, y⟩ := X
    intro e
    have e : x * (v * n * B') = ((u * n + v) * B' + T' * (v * n)) * y := e
    show x * (v * B) = (u * B + T * v) * y
    have pn : 0 < n * B' := Int.mul_pos (by omega) (by omega)
    refine Int.eq_of_mul_eq_mul_right (a := n * B') (by omega) ?_
    have l : x * (v * B) * (n * B') = x * (v * n * B') * B := by
      simp only [Int.mul_comm, Int.mul_left_comm, Int.mul_assoc]
    have k : T' * (v * n) * B = v * ((T * n - B) * B') := by
      rw [c]
      simp only [Int.mul_comm, Int.mul_left_comm, Int.mul_assoc]
    have r : (u * B + T * v) * y * (n * B') = ((u * n + v) * B' + T' * (v * n)) * y * B := by
      have : ((u * n + v) * B' + T' * (v * n)) * y * B = ((u * n + v) * B' * B + T' * (v * n) * B) * y := by
        rw [Int.mul_right_comm, Int.add_mul ((u * n + v) * B')]
      rw [this, k]
      simp only [Int.add_mul, Int.mul_sub, Int.sub_mul]
      simp only [Int.mul_comm, Int.mul_left_comm, Int.mul_assoc]
      omega
    rw [l, r, e]
theorem low_gws {T B : Int} {xs : List Int} (hB : 1 ≤ B) (hT : T < B) (h0 : 0 ≤ T) (e : gws T B = some xs) (h : Pos xs) : lowS xs = low T B := by
  have e := fold_gws T B xs hB hT e h0 0 1
  have b := (sumS_pos _ h).2.1
  refine low_uniq (by omega) (by omega) ?_
  have e : (sumS xs).1 * (1 * B) = (0 * B + T * 1) * (sumS xs).2 := e
  rw [Int.zero_mul, Int.mul_one, Int.one_mul, Int.zero_add] at e
  exact e
theorem gws_sz : ∀ T B xs, 1 ≤ B → T < B → gws T B = some xs → ∀ u v : Int, 1 ≤ v → Sz 2660 v → (1 ≤ T → v < upF B T) → Sz 2660 (xs.foldl (fun q s => (q.1 * s + q.2, q.2 * s)) (u, v)).2 := by
  refine gws_ind (fun T B xs => ∀ u v : Int, 1 ≤ v → Sz 2660 v → (1 ≤ T → v < upF B T) → Sz 2660 (xs.foldl (fun q s => (q.1 * s + q.2, q.2 * s)) (u, v)).2) (fun T B h _ u v _ z _ => z) (fun T B xs h hT b g ih u v v1 z hv => ?_)
  have n1 := upF_pos (B := B) h (by omega)
  have zs := not_big (by omega) b
  have hv := hv h
  have zv : Sz 1330 v := zs.le (by omega) (by omega)
  refine ih (u * upF B T + v) (v * upF B T) (Int.mul_pos (by omega) (by omega)) (zv.mul zs) (fun l1 => ?_)
  have g := lft_grow h (by omega) hT l1
  have : v * upF B T ≤ upF B T * (upF B T - 1) := by
    rw [Int.mul_comm]
    exact Int.mul_le_mul_of_nonneg_left (by omega) (by omega)
  omega
theorem gws_ok {T B : Int} {xs : List Int} (hB : 1 ≤ B) (hT : T < B) (h1 : T ≤ 1000) (e : gws T B = some xs) : SumOk xs where
  pos := fun x hx => by
    have := (gws_grows T B xs hB hT e).1 x hx
    omega
  sz := (gws_sz T B xs hB hT e 0 1 (by decide) Sz.one (fun h => by have := upF_two h hT; omega) : Sz 2660 (sumS xs).2).mono
  len := by
    by_cases c : T ≤ 0
    · rw [gws_nil c] at e
      cases e
      exact Nat.zero_le _
    · have := gws_len T B xs hB hT e (by omega)
      omega
/-- sizes on the way -/
theorem lft_sz {T B : Int} (h : 1 ≤ T) (hB : 1 ≤ B) (hT : T ≤ 1000) (b : ¬ Big (upF B T)) : Sz 1340 B ∧ Sz 1330 (upF B T) ∧ Sz 2670 (lft T B).2 ∧ (lft T B).1 ≤ 1000 := by
  have n1 := upF_pos (B := B) h hB
  have zs := not_big (by omega) b
  have zT : Sz 10 T := by
    show T.natAbs < 1024
    omega
  have zB : Sz 1340 B := (zs.mul zT).le (by omega) (upF_hi h)
  refine ⟨zB, zs, (zB.mul zs).le (by have := lft_b h hB; omega) (low_ble (Int.mul_pos (by omega) (by omega))), ?_⟩
  have := lft_lt (T := T) (B := B) h
  omega
/-- the law's own ceiling -/
theorem up_law {T B : Int} (h : 1 ≤ T) : (if B / T * T < B then B / T + 1 else B / T) = upF B T := by
  have e := Int.emod_add_mul_ediv B T
  have m1 := Int.emod_nonneg B (b := T) (by omega)
  have m2 := Int.emod_lt_of_pos B (b := T) (by omega)
  rw [Int.mul_comm] at e
  refine (upF_uniq h ?_ ?_).symm
  · split
    · rw [show B / T + 1 - 1 = B / T by omega]
      assumption
    · rw [Int.sub_mul]
      omega
  · split
    · rw [Int.add_mul]
      omega
    · omega

--: math = rf
/-! ### the shares of the rising factors -/
def prodsF (p : Int) : List Int → List Int
  | [] => []
  | n :: r => (p * n) :: prodsF (p * n) r
theorem prodsF_snoc : ∀ (xs : List Int) (p n : Int), prodsF p (xs ++ [n]) = prodsF p xs ++ [p * xs.foldl (· * ·) 1 * n]
  | [], p, n => by
    show [p * n] = [p * 1 * n]
    rw [Int.mul_one]
  | x :: xs, p, n => by
    show (p * x) :: prodsF (p * x) (xs ++ [n]) = (p * x) :: (prodsF (p * x) xs ++ [p * (x :: xs).foldl (· * ·) 1 * n])
    rw [prodsF_snoc xs (p * x) n]
    have e : ∀ (l : List Int) (a b : Int), l.foldl (· * ·) (a * b) = a * l.foldl (· * ·) b := fun l => by
      induction l with
      | nil => exact fun _ _ => rfl
      | cons y l ih =>
        intro a b
        show l.foldl (· * ·) (a * b * y) = a * l.foldl (· * ·) (b * y)
        rw [Int.mul_assoc, ih]
    show _ = (p * x) :: (prodsF (p * x) xs ++ [p * xs.foldl (· * ·) (1 * x) * n])
    rw [Int.one_mul]
    have := e xs x 1
    rw [Int.mul_one] at this
    rw [this, Int.mul_assoc p x]
theorem prodsF_len : ∀ (xs : List Int) (p : Int), (prodsF p xs).length = xs.length
  | [], _ => rfl
  | x :: xs, p => by
    show (prodsF (p * x) xs).length + 1 = xs.length + 1
    rw [prodsF_len xs]
theorem prodsF_sz : ∀ (xs : List Int) (p : Int) (q : Nat), 1 ≤ p → Sz q p → (∀ n ∈ xs, 2 ≤ n ∧ Sz 10 n) → ∀ s ∈ prodsF p xs, 1 ≤ s ∧ Sz (q + 10 * xs.length) s
  | [], _, _, _, _, _, _, m => nomatch m
  | x :: xs, p, q, hp, hq, h, s, m => by
    obtain ⟨x1, x2⟩ := h x List.mem_cons_self
    have p1 : 1 ≤ p * x := Int.mul_pos (by omega) (by omega)
    have p2 := hq.mul x2
    rcases List.mem_cons.mp m with rfl | m
    · exact ⟨p1, p2.mono (by rw [List.length_cons]; omega)⟩
    · obtain ⟨a, b⟩ := prodsF_sz xs (p * x) (q + 10) p1 p2 (fun n hn => h n (List.mem_cons_of_mem _ hn)) s m
      exact ⟨a, b.mono (by rw [List.length_cons]; omega)⟩
theorem fold_rfs {B : Int} (hB : 1 ≤ B) : ∀ (T : Int) (u v p : Int), 0 ≤ T → 1 ≤ v → 1 ≤ p → ((prodsF p (rfs T B)).foldl (fun q s => (q.1 * s + q.2, q.2 * s)) (u, v)).1 * (v * (B * p)) = (u * (B * p) + T * v) * ((prodsF p (rfs T B)).foldl (fun q s => (q.1 * s + q.2, q.2 * s)) (u, v)).2 := by
  refine rfs_ind (B := B) (fun T => ∀ (u v p : Int), 0 ≤ T → 1 ≤ v → 1 ≤ p → ((prodsF p (rfs T B)).foldl (fun q s => (q.1 * s + q.2, q.2 * s)) (u, v)).1 * (v * (B * p)) = (u * (B * p) + T * v) * ((prodsF p (rfs T B)).foldl (fun q s => (q.1 * s + q.2, q.2 * s)) (u, v)).2) (fun T h u v p h0 hv hp => ?_) (fun T h ih u v p h0 hv hp => ?_)
  · have z : T = 0 := by omega
    subst z
    rw [rfs_nil (Int.le_refl 0), Int.zero_mul, Int.add_zero]
    show u * (v * (B * p)) = u * (B * p) * v
    rw [Int.mul_comm v (B * p), Int.mul_assoc u]
  · have n1 := upF_pos (B := B) h hB
    have e := ih (u * (p * upF B T) + v) (v * (p * upF B T)) (p * upF B T) (nxt_nn h) (Int.mul_pos (by omega) (Int.mul_pos (by omega) (by omega))) (Int.mul_pos (by omega) (by omega))
    rw [rfs_cons h]
    show (List.foldl _ (u * (p * upF B T) + v, v * (p * upF B T)) (prodsF (p * upF B T) (rfs (nxt T B) B))).1 * (v * (B * p)) = (u * (B * p) + T * v) * (List.foldl _ (u * (p * upF B T) + v, v * (p * upF B T)) (prodsF (p * upF B T) (rfs (nxt T B) B))).2
    revert e
    generalize List.foldl (fun q s => (q.1 * s + q.2, q.2 * s)) (u * (p * upF B T) + v, v * (p * upF B T)) (prodsF (p * upF B T) (rfs (nxt T B) B)) = X
    unfold nxt
    generalize upF B T = n at *
    obtain ⟨x, y⟩ := X
    intro e
    have e : x * (v * (p * n) * (B * (p * n))) = ((u * (p * n) + v) * (B * (p * n)) + (T * n - B) * (v * (p * n))) * y := e
    show x * (v * (B * p)) = (u * (B * p) + T * v) * y
    have pn : 0 < p * n * n := Int.mul_pos (Int.mul_pos (by omega) (by omega)) (by omega)
    refine Int.eq_of_mul_eq_mul_right (a := p * n * n) (by omega) ?_
    have l : x * (v * (B * p)) * (p * n * n) = x * (v * (p * n) * (B * (p * n))) := by
      simp only [Int.mul_comm, Int.mul_left_comm, Int.mul_assoc]
    have r : (u * (B * p) + T * v) * y * (p * n * n) = ((u * (p * n) + v) * (B * (p * n)) + (T * n - B) * (v * (p * n))) * y := by
      simp only [Int.add_mul, Int.sub_mul]
      simp only [Int.mul_comm, Int.mul_left_comm, Int.mul_assoc]
      omega
    rw [l, r, e]
theorem low_prods {T B : Int} (hB : 1 ≤ B) (hT : 0 ≤ T) (h : Pos (prodsF 1 (rfs T B))) : lowS (prodsF 1 (rfs T B)) = low T B := by
  have e := fold_rfs hB T 0 1 1 hT (by decide) (by decide)
  have b := (sumS_pos _ h).2.1
  refine low_uniq (by omega) (by omega) ?_
  have e : (sumS (prodsF 1 (rfs T B))).1 * (1 * (B * 1)) = (0 * (B * 1) + T * 1) * (sumS (prodsF 1 (rfs T B))).2 := e
  rw [Int.zero_mul, Int.mul_one, Int.mul_one, Int.one_mul, Int.zero_add] at e
  exact e
/-- at most so many -/
theorem rfs_few {B : Int} (hB : B ≤ 1000) : ∀ T : Int, T < B → (rfs T B).length ≤ if T ≤ 0 then 0 else if 16 ≤ upF B T then T.toNat else (16 - (upF B T).toNat) * 10 + (10 - (B - (upF B T - 1) * T).toNat.log2) + 66 := by
  refine rfs_ind (B := B) (fun T => T < B → (rfs T B).length ≤ if T ≤ 0 then 0 else if 16 ≤ upF B T then T.toNat else (16 - (upF B T).toNat) * 10 + (10 - (B - (upF B T - 1) * T).toNat.log2) + 66) (fun T h _ => ?_) (fun T h ih hT => ?_)
  · rw [rfs_nil h]
    exact Nat.zero_le _
  · have l := nxt_lt (B := B) h
    have nn := nxt_nn (B := B) h
    have i := ih (by omega)
    rw [rfs_cons h, List.length_cons, if_neg (by omega)]
    have n2 := upF_two h hT
    have lo := upF_lo (B := B) h
    have hi := upF_hi (B := B) h
    have lg : (B - (upF B T - 1) * T).toNat.log2 ≤ 9 := by
      have z : (B - (upF B T - 1) * T).toNat ≠ 0 := by omega
      have p : 0 ≤ (upF B T - 1) * T := Int.mul_nonneg (by omega) (by omega)
      have := (Nat.log2_lt z (k := 10)).mpr (by show _ < 1024; omega)
      omega
    by_cases z : nxt T B ≤ 0
    · rw [if_pos z] at i
      split
      · omega
      · omega
    · rw [if_neg z] at i
      have z1 : 1 ≤ nxt T B := by omega
      have hi1 := upF_hi (B := B) z1
      have lo1 := upF_lo (B := B) z1
      have le : upF B T ≤ upF B (nxt T B) := by
        have : (upF B T - 1) * nxt T B ≤ (upF B T - 1) * T := Int.mul_le_mul_of_nonneg_left (by omega) (by omega)
        have : (upF B T - 1) * nxt T B < upF B (nxt T B) * nxt T B := by omega
        have := Int.lt_of_mul_lt_mul_right this (by omega)
        omega
      by_cases c1 : 16 ≤ upF B (nxt T B)
      · rw [if_pos c1] at i
        have small : nxt T B ≤ 66 := by
          have : 15 * nxt T B ≤ (upF B (nxt T B) - 1) * nxt T B := Int.mul_le_mul_of_nonneg_right (by omega) (by omega)
          omega
        split
        · omega
        · omega
      · rw [if_neg c1] at i
        rw [if_neg (by omega)]
        by_cases c2 : upF B T = upF B (nxt T B)
        · rw [← c2] at i
          have ed : B - (upF B T - 1) * nxt T B = upF B T * (B - (upF B T - 1) * T) := by
            unfold nxt
            generalize upF B T = n
            simp only [Int.sub_mul, Int.mul_sub, Int.one_mul]
            simp only [Int.mul_comm, Int.mul_left_comm, Int.mul_assoc]
            omega
          have lg2 : (B - (upF B T - 1) * T).toNat.log2 + 1 ≤ (B - (upF B T - 1) * nxt T B).toNat.log2 := by
            rw [ed]
            have g : 2 * (B - (upF B T - 1) * T) ≤ upF B T * (B - (upF B T - 1) * T) := Int.mul_le_mul_of_nonneg_right n2 (by omega)
            refine (Nat.le_log2 (by omega)).mpr ?_
            have := Nat.log2_self_le (n := (B - (upF B T - 1) * T).toNat) (by omega)
            rw [Nat.pow_succ]
            omega
          have lg3 : (B - (upF B T - 1) * nxt T B).toNat.log2 ≤ 9 := by
            have p : 0 ≤ (upF B T - 1) * nxt T B := Int.mul_nonneg (by omega) (by omega)
            have zz : (B - (upF B T - 1) * nxt T B).toNat ≠ 0 := by
              intro q
              rw [q] at lg2
              have : Nat.log2 0 = 0 := by decide
              omega
            have := (Nat.log2_lt zz (k := 10)).mpr (by show _ < 1024; omega)
            omega
          omega
        · omega
theorem rfs_216 {T B : Int} (hB : B ≤ 1000) (hT : T < B) : (rfs T B).length ≤ 216 := by
  have h := rfs_few hB T hT
  split at h
  · omega
  · rename_i c
    have n2 := upF_two (T := T) (by omega) hT
    have lo1 := upF_lo (B := B) (T := T) (by omega)
    split at h
    · rename_i c1
      have : 15 * T ≤ (upF B T - 1) * T := Int.mul_le_mul_of_nonneg_right (by omega) (by omega)
      omega
    · omega
theorem prods_ok {T B : Int} (hB : B ≤ 1000) (h1 : 1 ≤ B) (hT : T < B) (h0 : 0 ≤ T) : SumC (prodsF 1 (rfs T B)) := by
  have lw := rfs_low h1 T hT
  have few := rfs_216 hB hT
  have each : ∀ s ∈ prodsF 1 (rfs T B), 1 ≤ s ∧ Sz 2170 s := fun s hs => by
    obtain ⟨a, b⟩ := prodsF_sz (rfs T B) 1 1 (by decide) Sz.one (fun n hn => ⟨(lw.1 n hn).1, by
      have := lw.1 n hn
      show n.natAbs < 1024
      omega⟩) s hs
    exact ⟨a, b.mono (by omega)⟩
  have pos : Pos (prodsF 1 (rfs T B)) := fun s hs => (each s hs).1
  have e := low_prods h1 h0 pos
  have b := (sumS_pos _ pos).2.1
  have z1 : Sz 3000 (low (sumS (prodsF 1 (rfs T B))).1 (sumS (prodsF 1 (rfs T B))).2).1 := by
    have : low (sumS (prodsF 1 (rfs T B))).1 (sumS (prodsF 1 (rfs T B))).2 = low T B := e
    rw [this]
    refine (Sz.mono (a := 10) ?_ (by decide))
    have := low_tle (b := B) h0
    have := low_tnn (b := B) h1 h0
    show (low T B).1.natAbs < 1024
    omega
  have z2 : Sz 3000 (low (sumS (prodsF 1 (rfs T B))).1 (sumS (prodsF 1 (rfs T B))).2).2 := by
    have : low (sumS (prodsF 1 (rfs T B))).1 (sumS (prodsF 1 (rfs T B))).2 = low T B := e
    rw [this]
    refine (Sz.mono (a := 10) ?_ (by decide))
    have := low_ble (t := T) h1
    have := low_bpos (t := T) h1
    show (low T B).2.natAbs < 1024
    omega
  obtain ⟨d1, d2⟩ := low_near b z1 z2
  refine ⟨pos, (prod_sz _ each).mono ?_, ?_, d1, d2⟩
  · rw [prodsF_len]
    omega
  · rw [prodsF_len]
    omega

--: math = rf
--: math = ris
/-! ### all ways of a fraction -/
/-- lo, lo + 1, .., hi -/
def span (lo hi : Int) : List Int := (List.range (hi + 1 - lo).toNat).map fun (i : Nat) => lo + (i : Int)
theorem mem_span {lo hi x : Int} : x ∈ span lo hi ↔ lo ≤ x ∧ x ≤ hi := by
  unfold span
  rw [List.mem_map]
  constructor
  · rintro ⟨i, hi, rfl⟩
    have := List.mem_range.mp hi
    omega
  · rintro ⟨h1, h2⟩
    exact ⟨(x - lo).toNat, List.mem_range.mpr (by omega), by omega⟩
theorem ris_span (lo hi : Int) : Ris (span lo hi) := by
  unfold span
  refine List.pairwise_map.mpr (List.pairwise_lt_range.imp fun {a b} h => ?_)
  omega
theorem span_len (lo hi : Int) : (span lo hi).length = (hi + 1 - lo).toNat := by
  unfold span
  rw [List.length_map, List.length_range]
theorem span_get {lo hi : Int} {i : Nat} (h : i < (hi + 1 - lo).toNat) : (span lo hi)[i]? = some (lo + (i : Int)) := by
  unfold span
  rw [List.getElem?_map, List.getElem?_range h] <;> rfl
theorem flatMap_snoc {α β : Type} (f : α → List β) (l : List α) (x : α) : (l ++ [x]).flatMap f = l.flatMap f ++ f x := by
  rw [List.flatMap_append] <;> simp
theorem fm_congr {α β : Type} {f g : α → List β} : ∀ {l : List α}, (∀ x ∈ l, f x = g x) → l.flatMap f = l.flatMap g
  | [], _ => rfl
  | x :: l, h => by rw [List.flatMap_cons, List.flatMap_cons, h x List.mem_cons_self, fm_congr fun y hy => h y (List.mem_cons_of_mem _ hy)]
/-- what gives nothing may be left out -/
theorem flatMap_filter {α β : Type} (q : α → Bool) (f : α → List β) : ∀ l : List α, (∀ x ∈ l, q x = false → f x = []) → l.flatMap f = (l.filter q).flatMap f
  | [], _ => rfl
  | x :: l, h => by
    have ih := flatMap_filter q f l fun y hy => h y (List.mem_cons_of_mem _ hy)
    rw [List.flatMap_cons, List.filter_cons, ih]
    split
    · rw [List.flatMap_cons]
    · rw [h x List.mem_cons_self (by simpa using ‹¬ q x = true›), List.nil_append]
theorem span_cut {l g a b : Int} : (span l g).filter (fun x => decide (a ≤ x ∧ x ≤ b)) = span (max l a) (min g b) := by
  refine ris_uniq (List.Pairwise.filter _ (ris_span l g)) (ris_span _ _) fun k => ?_
  rw [List.mem_filter, mem_span, mem_span, decide_eq_true_eq]
  omega
/-- the rising lists of k numbers from l to g, in order -/
def Rw : Nat → Int → Int → List (List Int)
  | 0, _, _ => [[]]
  | k + 1, l, g => (span l g).flatMap fun s => (Rw k (s + 1) g).map (s :: ·)
theorem rw_mem : ∀ {k : Nat} {l g : Int} {r : List Int}, r ∈ Rw k l g → r.length = k ∧ (∀ x ∈ r, l ≤ x ∧ x ≤ g) ∧ Ris r
  | 0, l, g, r, h => by
    rw [List.mem_singleton.mp h]
    exact ⟨rfl, fun _ m => (nomatch m), List.Pairwise.nil⟩
  | k + 1, l, g, r, h => by
    obtain ⟨s, hs, h⟩ := List.mem_flatMap.mp h
    obtain ⟨t, ht, rfl⟩ := List.mem_map.mp h
    obtain ⟨a, b, c⟩ := rw_mem ht
    have hs := mem_span.mp hs
    refine ⟨by rw [List.length_cons, a], fun x hx => ?_, List.pairwise_cons.mpr ⟨fun x hx => by have := b x hx; omega, c⟩⟩
    rcases List.mem_cons.mp hx with rfl | hx
    · exact hs
    · have := b x hx
      omega
/-- a row comes to T / B -/
def Comes (r : List Int) (T B : Int) : Prop := (sumS r).1 * B = T * (sumS r).2
instance (r : List Int) (T B : Int) : Decidable (Comes r T B) := inferInstanceAs (Decidable (_ = _))
theorem fold_lin : ∀ (r : List Int) (u v : Int), r.foldl (fun q s => (q.1 * s + q.2, q.2 * s)) (u, v) = (u * (sumS r).2 + v * (sumS r).1, v * (sumS r).2) := fun r => by
  refine snoc_ind (fun r => ∀ u v : Int, r.foldl (fun q s => (q.1 * s + q.2, q.2 * s)) (u, v) = (u * (sumS r).2 + v * (sumS r).1, v * (sumS r).2)) r (fun u v => ?_) (fun r x ih u v => ?_)
  · show (u, v) = (u * 1 + v * 0, v * 1)
    rw [Int.mul_one, Int.mul_one, Int.mul_zero, Int.add_zero]
  · rw [List.foldl_append, ih, sumS_snoc]
    show ((u * (sumS r).2 + v * (sumS r).1) * x + v * (sumS r).2, v * (sumS r).2 * x) = (u * ((sumS r).2 * x) + v * ((sumS r).1 * x + (sumS r).2), v * ((sumS r).2 * x))
    rw [Int.add_mul, Int.mul_add, Int.mul_assoc, Int.mul_assoc, Int.mul_assoc, Int.add_assoc]
theorem sumS_cons (s : Int) (r : List Int) : sumS (s :: r) = ((sumS r).1 * s + (sumS r).2, s * (sumS r).2) := by
  have e := fold_lin r (0 * s + 1) (1 * s)
  have e : sumS (s :: r) = ((0 * s + 1) * (sumS r).2 + 1 * s * (sumS r).1, 1 * s * (sumS r).2) := e
  rw [e, Int.zero_mul, Int.zero_add, Int.one_mul, Int.one_mul, Int.add_comm, Int.mul_comm s (sumS r).1]
theorem comes_scale {r : List Int} {T B T' B' : Int} (hB : 1 ≤ B) (hB' : 1 ≤ B') (e : T * B' = T' * B) : Comes r T B ↔ Comes r T' B' := by
  unfold Comes
  generalize (sumS r).1 = N
  generalize (sumS r).2 = P
  constructor
  · intro h
    refine Int.eq_of_mul_eq_mul_right (a := B) (by omega) ?_
    calc N * B' * B = N * B * B' := by rw [Int.mul_right_comm]
      _ = T * B' * P := by rw [h, Int.mul_right_comm]
      _ = T' * P * B := by rw [e, Int.mul_right_comm]
  · intro h
    refine Int.eq_of_mul_eq_mul_right (a := B') (by omega) ?_
    calc N * B * B' = N * B' * B := by rw [Int.mul_right_comm]
      _ = T' * B * P := by rw [h, Int.mul_right_comm]
      _ = T * P * B' := by rw [← e, Int.mul_right_comm]
theorem comes_low {r : List Int} {T B : Int} (hB : 1 ≤ B) : Comes r (low T B).1 (low T B).2 ↔ Comes r T B :=
  comes_scale (low_bpos hB) hB (low_cross T B).symm
theorem comes_cons {s : Int} {r : List Int} {T B : Int} : Comes (s :: r) T B ↔ Comes r (T * s - 1 * B) (B * s) := by
  unfold Comes
  rw [sumS_cons]
  generalize (sumS r).1 = N
  generalize (sumS r).2 = P
  show (N * s + P) * B = T * (s * P) ↔ N * (B * s) = (T * s - 1 * B) * P
  have e1 : (N * s + P) * B = N * (B * s) + P * B := by
    rw [Int.add_mul, Int.mul_assoc, Int.mul_comm s B]
  have e2 : (T * s - 1 * B) * P = T * (s * P) - P * B := by
    rw [Int.sub_mul, Int.one_mul, Int.mul_assoc, Int.mul_comm B P]
  rw [e1, e2]
  omega
/-- k shares of numbers from s on are at most k / s -/
theorem sum_most {s : Int} (r : List Int) : (∀ x ∈ r, (1 : Int) ≤ x ∧ s ≤ x) → (sumS r).1 * s ≤ r.length * (sumS r).2 := by
  refine snoc_ind (fun r => (∀ x ∈ r, (1 : Int) ≤ x ∧ s ≤ x) → (sumS r).1 * s ≤ r.length * (sumS r).2) r (fun _ => ?_) (fun r x ih h => ?_)
  · show (0 : Int) * s ≤ 0 * 1
    omega
  · have i := ih fun y hy => h y (List.mem_append_left _ hy)
    obtain ⟨x1, x2⟩ := h x (List.mem_append_right _ List.mem_cons_self)
    have p := (sumS_pos r fun y hy => (h y (List.mem_append_left _ hy)).1).2.1
    rw [sumS_snoc, List.length_append, List.length_singleton]
    show ((sumS r).1 * x + (sumS r).2) * s ≤ ((r.length + 1 : Nat) : Int) * ((sumS r).2 * x)
    generalize (sumS r).1 = N at *
    generalize (sumS r).2 = P at *
    have a : N * s * x ≤ r.length * P * x := Int.mul_le_mul_of_nonneg_right i (by omega)
    have b : P * s ≤ P * x := Int.mul_le_mul_of_nonneg_left x2 (by omega)
    rw [Int.add_mul, Int.natCast_add, Int.add_mul, Int.mul_right_comm, ← Int.mul_assoc]
    show N * s * x + P * s ≤ (r.length : Int) * P * x + 1 * (P * x)
    omega
/-- the ways of T / B with k numbers from l to g, as the program looks for them -/
def Wy : Nat → Int → Int → Int → Int → List (List Int)
  | 0, T, _, _, _ => if T = 0 then [[]] else []
  | k + 1, T, B, l, g => if T = 0 then [] else (span (max l (upF B T)) (min g (((k + 1 : Nat) : Int) * B / T))).flatMap fun s => (Wy k (low (T * s - 1 * B) (B * s)).1 (low (T * s - 1 * B) (B * s)).2 (s + 1) g).map (s :: ·)
theorem wy_rw : ∀ (k : Nat) (T B l g : Int), 1 ≤ l → 0 ≤ T → 1 ≤ B → Wy k T B l g = (Rw k l g).filter fun r => decide (Comes r T B)
  | 0, T, B, l, g, hl, hT, hB => by
    show (if T = 0 then [[]] else []) = List.filter _ [[]]
    have c : Comes [] T B ↔ T = 0 := by
      show (0 : Int) * B = T * 1 ↔ T = 0
      rw [Int.zero_mul, Int.mul_one]
      exact eq_comm
    by_cases z : T = 0
    · rw [if_pos z, List.filter_cons, if_pos (decide_eq_true (c.mpr z))] <;> rfl
    · rw [if_neg z, List.filter_cons, if_neg (fun w => z (c.mp (of_decide_eq_true w)))] <;> rfl
  | k + 1, T, B, l, g, hl, hT, hB => by
    have pos : ∀ {s : Int} {r : List Int}, s ∈ span l g → r ∈ Rw k (s + 1) g → 0 ≤ (sumS r).1 ∧ 1 ≤ (sumS r).2 := fun {s r} hs hr => by
      have hs := mem_span.mp hs
      have := sumS_pos r fun x hx => by have := (rw_mem hr).2.1 x hx; omega
      exact ⟨this.1, this.2.1⟩
    show _ = List.filter _ ((span l g).flatMap fun s => (Rw k (s + 1) g).map (s :: ·))
    rw [List.filter_flatMap]
    by_cases z : T = 0
    · show (if T = 0 then [] else _) = _
      rw [if_pos z]
      symm
      refine List.flatMap_eq_nil_iff.mpr fun s hs => ?_
      refine List.filter_eq_nil_iff.mpr fun r hr => ?_
      obtain ⟨t, ht, rfl⟩ := List.mem_map.mp hr
      obtain ⟨n1, p1⟩ := pos hs ht
      have hs' := mem_span.mp hs
      intro w
      have w := of_decide_eq_true w
      unfold Comes at w
      rw [sumS_cons, z, Int.zero_mul] at w
      have w : ((sumS t).1 * s + (sumS t).2) * B = 0 := w
      have q : 0 ≤ (sumS t).1 * s := Int.mul_nonneg n1 (by omega)
      have : 0 < ((sumS t).1 * s + (sumS t).2) * B := Int.mul_pos (by omega) (by omega)
      omega
    · have hT1 : 1 ≤ T := by omega
      show (if T = 0 then [] else _) = _
      rw [if_neg z, ← span_cut]
      rw [flatMap_filter (fun x => decide (upF B T ≤ x ∧ x ≤ ((k + 1 : Nat) : Int) * B / T)) (fun s => List.filter (fun r => decide (Comes r T B)) ((Rw k (s + 1) g).map (s :: ·))) (span l g) (fun s hs hq => ?_)]
      · refine fm_congr fun s hs => ?_
        obtain ⟨hs, hq⟩ := List.mem_filter.mp hs
        have hq := of_decide_eq_true hq
        have hs' := mem_span.mp hs
        have sB : 1 ≤ B * s := Int.mul_pos (by omega) (by omega)
        have hi := upF_hi (B := B) hT1
        have nn : 0 ≤ T * s - 1 * B := by
          have : upF B T * T ≤ s * T := Int.mul_le_mul_of_nonneg_right hq.1 (by omega)
          rw [Int.mul_comm T s]
          omega
        rw [wy_rw k _ _ (s + 1) g (by omega) (low_tnn sB nn) (low_bpos sB), List.filter_map]
        congr 1
        refine List.filter_congr fun r hr => ?_
        exact decide_eq_decide.mpr ((comes_low sB).trans comes_cons.symm)
      · refine List.filter_eq_nil_iff.mpr fun r hr => ?_
        obtain ⟨t, ht, rfl⟩ := List.mem_map.mp hr
        obtain ⟨n1, p1⟩ := pos hs ht
        have hs' := mem_span.mp hs
        intro w
        have w := of_decide_eq_true w
        unfold Comes at w
        rw [sumS_cons] at w
        have w : ((sumS t).1 * s + (sumS t).2) * B = T * (s * (sumS t).2) := w
        have hq := of_decide_eq_false hq
        have m := sum_most (s := s) t fun x hx => by have := (rw_mem ht).2.1 x hx; omega
        rw [(rw_mem ht).1] at m
        generalize (sumS t).1 = N at *
        generalize (sumS t).2 = P at *
        have q0 : 0 ≤ N * s := Int.mul_nonneg n1 (by omega)
        have wr : T * (s * P) = s * T * P := by rw [Int.mul_comm s T, Int.mul_assoc]
        rw [wr] at w
        by_cases c : upF B T ≤ s
        · have c2 : ((k + 1 : Nat) : Int) * B / T < s := by omega
          have c3 : ((k + 1 : Nat) : Int) * B < s * T := (Int.ediv_lt_iff_lt_mul (by omega)).mp c2
          have d1 : (N * s + P) * B ≤ ((k + 1 : Nat) : Int) * P * B := by
            refine Int.mul_le_mul_of_nonneg_right ?_ (by omega)
            rw [Int.natCast_add, Int.add_mul]
            show N * s + P ≤ (k : Int) * P + 1 * P
            omega
          have d2 : ((k + 1 : Nat) : Int) * P * B < s * T * P := by
            rw [Int.mul_right_comm]
            exact Int.mul_lt_mul_of_pos_right c3 (by omega)
          omega
        · have c3 : s * T < B := by
            have lo := upF_lo (B := B) hT1
            have : s * T ≤ (upF B T - 1) * T := Int.mul_le_mul_of_nonneg_right (by omega) (by omega)
            omega
          have d1 : s * T * P < B * P := Int.mul_lt_mul_of_pos_right c3 (by omega)
          have d2 : P * B ≤ (N * s + P) * B := Int.mul_le_mul_of_nonneg_right (by omega) (by omega)
          rw [Int.mul_comm B P] at d1
          omega
/-- the law's own rows: one number more behind each -/
def lastI (r : List Int) : Int := r.getLastD 0
theorem lastI_snoc (r : List Int) (s : Int) : lastI (r ++ [s]) = s := by
  unfold lastI
  rw [List.getLastD_concat]
def ext (g : Int) (r : List Int) : List (List Int) := (span (lastI r + 1) g).map fun s => r ++ [s]
def Lw (g : Int) : Nat → List (List Int) → List (List Int)
  | 0, xs => xs
  | k + 1, xs => (Lw g k xs).flatMap (ext g)
theorem lw_flat (g : Int) : ∀ (k : Nat) (xs : List (List Int)), Lw g k xs = xs.flatMap fun x => Lw g k [x]
  | 0, xs => by
    show xs = xs.flatMap fun x => [x]
    simp
  | k + 1, xs => by
    show (Lw g k xs).flatMap (ext g) = xs.flatMap fun x => (Lw g k [x]).flatMap (ext g)
    rw [lw_flat g k xs, List.flatMap_assoc]
theorem lw_front (g : Int) : ∀ (k : Nat) (xs : List (List Int)), Lw g (k + 1) xs = Lw g k (xs.flatMap (ext g))
  | 0, xs => rfl
  | k + 1, xs => by
    show (Lw g (k + 1) xs).flatMap (ext g) = (Lw g k (xs.flatMap (ext g))).flatMap (ext g)
    rw [lw_front g k xs]
theorem lw_rw (g : Int) : ∀ (k : Nat) (p : List Int), Lw g k [p] = (Rw k (lastI p + 1) g).map (p ++ ·)
  | 0, p => by
    show [p] = [p ++ []]
    rw [List.append_nil]
  | k + 1, p => by
    rw [lw_front, lw_flat]
    show (([p].flatMap (ext g)).flatMap fun x => Lw g k [x]) = ((span (lastI p + 1) g).flatMap fun s => (Rw k (s + 1) g).map (s :: ·)).map (p ++ ·)
    rw [List.flatMap_singleton, List.map_flatMap]
    show (((span (lastI p + 1) g).map fun s => p ++ [s]).flatMap fun x => Lw g k [x]) = _
    rw [List.flatMap_map]
    refine fm_congr fun s _ => ?_
    rw [lw_rw g k (p ++ [s]), lastI_snoc, List.map_map]
    refine List.map_congr_left fun r _ => ?_
    show p ++ [s] ++ r = p ++ (s :: r)
    rw [List.append_assoc] <;> rfl
theorem lw_all (g : Int) (k : Nat) : Lw g k [[]] = Rw k 1 g := by
  rw [lw_rw]
  show (Rw k (0 + 1) g).map ([] ++ ·) = _
  rw [Int.zero_add]
  exact (List.map_congr_left fun r _ => List.nil_append r).trans (List.map_id _)
/-- all rows of up to m numbers; all ways of up to m shares -/
def rowsF (g : Int) (m : Nat) : List (List Int) := (List.range m).flatMap fun k => Lw g (k + 1) [[]]
def allF (T B g : Int) (m : Nat) : List (List Int) := (List.range m).flatMap fun k => Wy (k + 1) T B 1 g
theorem allF_snoc (T B g : Int) (m : Nat) : allF T B g (m + 1) = allF T B g m ++ Wy (m + 1) T B 1 g := by
  unfold allF
  rw [List.range_succ, flatMap_snoc]
theorem rowsF_snoc (g : Int) (m : Nat) : rowsF g (m + 1) = rowsF g m ++ Lw g (m + 1) [[]] := by
  unfold rowsF
  rw [List.range_succ, flatMap_snoc]
theorem all_rows {T B g : Int} (hT : 0 ≤ T) (hB : 1 ≤ B) (m : Nat) : allF T B g m = (rowsF g m).filter fun r => decide (Comes r T B) := by
  unfold allF rowsF
  rw [List.filter_flatMap]
  refine fm_congr fun k _ => ?_
  rw [wy_rw _ _ _ _ _ (Int.le_refl 1) hT hB, lw_all]
/-- how many -/
theorem rw_len : ∀ (k : Nat) (l g : Int), 1 ≤ l → 0 ≤ g → (Rw k l g).length ≤ g.toNat ^ k
  | 0, _, _, _, _ => Nat.le_refl 1
  | k + 1, l, g, hl, hg => by
    have each : ∀ s ∈ span l g, ((Rw k (s + 1) g).map (s :: ·)).length ≤ g.toNat ^ k := fun s hs => by
      rw [List.length_map]
      exact rw_len k (s + 1) g (by have := mem_span.mp hs; omega) hg
    have go : ∀ xs : List Int, (∀ s ∈ xs, ((Rw k (s + 1) g).map (s :: ·)).length ≤ g.toNat ^ k) → (xs.flatMap fun s => (Rw k (s + 1) g).map (s :: ·)).length ≤ xs.length * g.toNat ^ k := fun xs => by
      induction xs with
      | nil => exact fun _ => Nat.zero_le _
      | cons x xs ih =>
        intro h
        have a := h x List.mem_cons_self
        have b := ih fun s hs => h s (List.mem_cons_of_mem _ hs)
        rw [List.flatMap_cons, List.length_append, List.length_cons, Nat.add_mul, Nat.one_mul]
        omega
    have := go _ each
    rw [span_len] at this
    refine Nat.le_trans this ?_
    rw [Nat.pow_succ, Nat.mul_comm (g.toNat ^ k)]
    exact Nat.mul_le_mul_right _ (by omega)
theorem wy_len {k : Nat} {T B l g : Int} (hl : 1 ≤ l) (hT : 0 ≤ T) (hB : 1 ≤ B) (hg : 0 ≤ g) : (Wy k T B l g).length ≤ g.toNat ^ k := by
  rw [wy_rw _ _ _ _ _ hl hT hB]
  exact Nat.le_trans (List.length_filter_le _ _) (rw_len k l g hl hg)
theorem wy_mem {k : Nat} {T B l g : Int} (hl : 1 ≤ l) (hT : 0 ≤ T) (hB : 1 ≤ B) {r : List Int} (h : r ∈ Wy k T B l g) : r ∈ Rw k l g ∧ Comes r T B := by
  rw [wy_rw _ _ _ _ _ hl hT hB] at h
  obtain ⟨a, b⟩ := List.mem_filter.mp h
  exact ⟨a, of_decide_eq_true b⟩

--: math = ways
/-! ### lists of lists in a heap -/
/-- all but F is kept -/
def SameB (F : Addr) (H H' : Hp) : Prop := ∀ b o, b ≠ F → H b = some o → H' b = some o
theorem SameB.refl {F : Addr} (H : Hp) : SameB F H H := fun _ _ _ h => h
theorem SameB.of {F : Addr} {H H' : Hp} (s : Same H H') : SameB F H H' := fun b o _ e => s b o e
theorem SameB.trans {F : Addr} {H H1 H2 : Hp} (a : SameB F H H1) (b : SameB F H1 H2) : SameB F H H2 := fun c o n e => b c o n (a c o n e)
theorem SameB.put {F : Addr} {H : Hp} {o : HO} : SameB F H (upd H F o) := fun b u n e => by
  rw [upd_ne n]
  exact e
theorem SameB.free {F b : Addr} {H H' : Hp} (s : SameB F H H') (n : b ≠ F) (h : H' b = none) : H b = none := by
  cases e : H b with
  | none => rfl
  | some o =>
    rw [s b o n e] at h
    cases h
theorem SameB.same {F : Addr} {H0 H H' : Hp} (a : Same H0 H) (n : H0 F = none) (s : SameB F H H') : Same H0 H' := fun b o e => s b o (ne_of_none e n) (a b o e)
/-- at ps stand new lists, these rows -/
structure Rws (H0 H : Hp) (ps : List Addr) (rs : List (List Int)) : Prop where
  len : ps.length = rs.length
  each : ∀ (i : Nat) (p : Addr) (r : List Int), ps[i]? = some p → rs[i]? = some r → H0 p = none ∧ H p = some (.lst (r.map V.int))
theorem Rws.nil {H0 H : Hp} : Rws H0 H [] [] := ⟨rfl, fun _ _ _ e => nomatch e⟩
theorem Rws.get {H0 H : Hp} {ps : List Addr} {rs : List (List Int)} (h : Rws H0 H ps rs) {i : Nat} {p : Addr} (e : ps[i]? = some p) : ∃ r, rs[i]? = some r ∧ H0 p = none ∧ H p = some (.lst (r.map V.int)) := by
  have hl := lt_of_get e
  rw [h.len] at hl
  exact ⟨rs[i], List.getElem?_eq_getElem hl, h.each i p _ e (List.getElem?_eq_getElem hl)⟩
theorem Rws.at {H0 H : Hp} {ps : List Addr} {rs : List (List Int)} (h : Rws H0 H ps rs) {i : Nat} {r : List Int} (e : rs[i]? = some r) : ∃ p, ps[i]? = some p ∧ H0 p = none ∧ H p = some (.lst (r.map V.int)) := by
  have hl := lt_of_get e
  rw [← h.len] at hl
  exact ⟨ps[i], List.getElem?_eq_getElem hl, h.each i _ r (List.getElem?_eq_getElem hl) e⟩
theorem Rws.mem {H0 H : Hp} {ps : List Addr} {rs : List (List Int)} (h : Rws H0 H ps rs) {p : Addr} (m : p ∈ ps) : H0 p = none ∧ ∃ r, r ∈ rs ∧ H p = some (.lst (r.map V.int)) := by
  obtain ⟨i, e⟩ := List.mem_iff_getElem?.mp m
  obtain ⟨r, er, a, b⟩ := h.get e
  exact ⟨a, r, List.mem_of_getElem? er, b⟩
theorem Rws.not {H0 H : Hp} {ps : List Addr} {rs : List (List Int)} (h : Rws H0 H ps rs) {F : Addr} {o : HO} (e : H0 F = some o) : F ∉ ps := fun m => by
  rw [(h.mem m).1] at e
  cases e
theorem Rws.same {H0 H H' : Hp} {ps : List Addr} {rs : List (List Int)} (h : Rws H0 H ps rs) (s : Same H H') : Rws H0 H' ps rs := ⟨h.len, fun i p r a b => ⟨(h.each i p r a b).1, s _ _ (h.each i p r a b).2⟩⟩
theorem Rws.sameB {H0 H H' : Hp} {F : Addr} {ps : List Addr} {rs : List (List Int)} (h : Rws H0 H ps rs) (s : SameB F H H') (n : F ∉ ps) : Rws H0 H' ps rs :=
  ⟨h.len, fun i p r a b => ⟨(h.each i p r a b).1, s _ _ (fun z => n (z ▸ List.mem_of_getElem? a)) (h.each i p r a b).2⟩⟩
theorem Rws.base {H0 H1 H : Hp} {ps : List Addr} {rs : List (List Int)} (h : Rws H1 H ps rs) (s : Same H0 H1) : Rws H0 H ps rs := ⟨h.len, fun i p r a b => ⟨s.free (h.each i p r a b).1, (h.each i p r a b).2⟩⟩
theorem Rws.baseB {H0 H1 H : Hp} {F : Addr} {o : HO} {ps : List Addr} {rs : List (List Int)} (h : Rws H1 H ps rs) (s : SameB F H0 H1) (e : H1 F = some o) : Rws H0 H ps rs :=
  ⟨h.len, fun i p r a b => ⟨s.free (fun z => h.not e (z ▸ List.mem_of_getElem? a)) (h.each i p r a b).1, (h.each i p r a b).2⟩⟩
theorem Rws.append {H0 H : Hp} {ps qs : List Addr} {rs ts : List (List Int)} (h : Rws H0 H ps rs) (g : Rws H0 H qs ts) : Rws H0 H (ps ++ qs) (rs ++ ts) := ⟨by rw [List.length_append, List.length_append, h.len, g.len], fun i p r a b => by
  by_cases c : i < ps.length
  · rw [List.getElem?_append_left c] at a
    rw [List.getElem?_append_left (by rw [← h.len]; exact c)] at b
    exact h.each i p r a b
  · rw [List.getElem?_append_right (by omega)] at a
    rw [List.getElem?_append_right (by rw [← h.len]; omega), ← h.len] at b
    exact g.each _ p r a b⟩
theorem Rws.one {H0 H : Hp} {p : Addr} {r : List Int} (a : H0 p = none) (b : H p = some (.lst (r.map V.int))) : Rws H0 H [p] [r] := ⟨rfl, fun i q t e1 e2 => by
  have hi : i < 1 := lt_of_get e1
  obtain rfl : i = 0 := by omega
  cases e1
  cases e2
  exact ⟨a, b⟩⟩
theorem take_flat_len {α β : Type} (f : α → List β) (l : List α) (i : Nat) : ((l.take i).flatMap f).length ≤ (l.flatMap f).length := by
  conv => rhs; rw [← List.take_append_drop i l]
  rw [List.flatMap_append, List.length_append]
  omega
theorem ways_arg {r : Addr} {x s g : Int} {k : Nat} (h : x = k) : [V.ref r, V.int x, V.int s, V.int g] = [V.ref r, V.int (k : Int), V.int s, V.int g] := by rw [h]
theorem pow60 {g : Int} {k : Nat} (h0 : 0 ≤ g) (hg : g ≤ 60) (hk : k ≤ 4) : g.toNat ^ k ≤ 12960000 := by
  have a : g.toNat ^ k ≤ 60 ^ k := Nat.pow_le_pow_left (by omega) k
  have b : 60 ^ k ≤ 60 ^ 4 := Nat.pow_le_pow_right (by decide) hk
  exact Nat.le_trans a (Nat.le_trans b (by decide))
theorem at_lastI {r : List Int} (h : r ≠ []) : atI (r.map V.int) (-1) = some (.int (lastI r)) := by
  obtain ⟨l, x, rfl⟩ : ∃ l x, r = l ++ [x] := ⟨r.dropLast, r.getLast h, (List.dropLast_concat_getLast h).symm⟩
  rw [lastI_snoc, List.map_append]
  exact atI_last _ _
theorem lw_len {g : Int} {k : Nat} (h0 : 0 ≤ g) (hg : g ≤ 60) (hk : k ≤ 4) : (Lw g k [[]]).length ≤ 60 ^ k := by
  rw [lw_all]
  exact Nat.le_trans (rw_len k 1 g (Int.le_refl 1) h0) (Nat.pow_le_pow_left (by omega) k)
theorem rowsF_len {g : Int} (h0 : 0 ≤ g) (hg : g ≤ 60) {m : Nat} (hm : m ≤ 4) : (rowsF g m).length ≤ 13179660 := by
  have w : ∀ k, k ≤ 4 → (Lw g k [[]]).length ≤ 60 ^ k := fun k hk => lw_len h0 hg hk
  have a0 : (rowsF g 0).length ≤ 0 := Nat.le_refl 0
  have a1 : (rowsF g 1).length ≤ 60 := by
    rw [rowsF_snoc, List.length_append]
    show (rowsF g 0).length + (Lw g 1 [[]]).length ≤ 60
    have := w 1 (by decide)
    omega
  have a2 : (rowsF g 2).length ≤ 3660 := by
    rw [rowsF_snoc, List.length_append]
    show (rowsF g 1).length + (Lw g 2 [[]]).length ≤ 3660
    have := w 2 (by decide)
    omega
  have a3 : (rowsF g 3).length ≤ 219660 := by
    rw [rowsF_snoc, List.length_append]
    show (rowsF g 2).length + (Lw g 3 [[]]).length ≤ 219660
    have := w 3 (by decide)
    omega
  have a4 : (rowsF g 4).length ≤ 13179660 := by
    rw [rowsF_snoc, List.length_append]
    show (rowsF g 3).length + (Lw g 4 [[]]).length ≤ 13179660
    have := w 4 (by decide)
    omega
  obtain rfl | rfl | rfl | rfl | rfl : m = 0 ∨ m = 1 ∨ m = 2 ∨ m = 3 ∨ m = 4 := by omega
  · exact Nat.le_trans a0 (by decide)
  · exact Nat.le_trans a1 (by decide)
  · exact Nat.le_trans a2 (by decide)
  · exact Nat.le_trans a3 (by decide)
  · exact a4
theorem lw_row {g : Int} {k : Nat} {r : List Int} (h : r ∈ Lw g k [[]]) : r.length = k ∧ ∀ x ∈ r, 1 ≤ x ∧ x ≤ g := by
  rw [lw_all] at h
  exact ⟨(rw_mem h).1, (rw_mem h).2.1⟩
/-! ### lists of rows, compared -/
theorem Rws.dp {K : PySem.W.Frag} {H0 H : Hp} : ∀ {ps : List Addr} {rs : List (List Int)}, Rws H0 H ps rs → DpAll K H (ps.map V.ref) (rs.map fun r => PyData.list (r.map PyData.int))
  | [], [], _ => .nil
  | [], r :: rs, h => absurd h.len (by simp)
  | p :: ps, [], h => absurd h.len (by simp)
  | p :: ps, r :: rs, h => .cons (dp_ints (SqL.of (h.each 0 p r rfl rfl).2)) (Rws.dp ⟨by simpa using h.len, fun i p r a b => h.each (i + 1) p r a b⟩)
theorem Rws.dpl {K : PySem.W.Frag} {H0 H : Hp} {ps : List Addr} {rs : List (List Int)} (h : Rws H0 H ps rs) {F : Addr} (e : H F = some (.lst (ps.map V.ref))) : Dp K H (.ref F) (.list (rs.map fun r => PyData.list (r.map PyData.int))) := .lst (SqL.of e) h.dp
theorem canLay_rows : ∀ rs : List (List Int), PyData.canLayAll0 (rs.map fun r => PyData.list (r.map PyData.int)) = true
  | [] => rfl
  | r :: rs => by
    simp only [List.map_cons, PyData.canLayAll0, PyData.canLay0, canLay_ints, canLay_rows rs]
    rfl
theorem depth_rows : ∀ rs : List (List Int), PyData.depthAll (rs.map fun r => PyData.list (r.map PyData.int)) ≤ 1
  | [] => by simp [PyData.depthAll]
  | r :: rs => by
    have ih := depth_rows rs
    simp only [List.map_cons, PyData.depthAll, PyData.depth, depth_ints]
    omega
theorem shaped_rows (rs : List (List Int)) : SeqAt.shaped (.list (rs.map fun r => PyData.list (r.map PyData.int))) = true := by
  have d := depth_rows rs
  have c := canLay_rows rs
  have e : PyData.depth (.list (rs.map fun r => PyData.list (r.map PyData.int))) ≤ 64 := by
    simp only [PyData.depth]
    omega
  have l : PyData.canLay0 (.list (rs.map fun r => PyData.list (r.map PyData.int))) = true := by
    simp only [PyData.canLay0]
    exact c
  unfold SeqAt.shaped
  rw [l, decide_eq_true e] <;> rfl
theorem eqvAll_rows : ∀ xs ys : List (List Int), PyData.eqvAll (xs.map fun r => PyData.list (r.map PyData.int)) (ys.map fun r => PyData.list (r.map PyData.int)) = decide (xs = ys)
  | [], [] => by simp [PyData.eqvAll]
  | [], y :: ys => by simp [PyData.eqvAll]
  | x :: xs, [] => by simp [PyData.eqvAll]
  | x :: xs, y :: ys => by
    have ih := eqvAll_rows xs ys
    have e := eqv_ints x y
    simp only [List.map_cons, PyData.eqvAll, ih, e]
    rw [Bool.eq_iff_iff]
    simp
theorem eqv_rows (xs ys : List (List Int)) : PyData.eqv (.list (xs.map fun r => PyData.list (r.map PyData.int))) (.list (ys.map fun r => PyData.list (r.map PyData.int))) = decide (xs = ys) := by
  rw [← eqvAll_rows]
  simp only [PyData.eqv]
/-- a row of numbers from 1 to 60, at most four of them, is one that may be summed -/
theorem row_ok {r : List Int} {g : Int} (hg : g ≤ 60) (hl : r.length ≤ 4) (h : ∀ x ∈ r, 1 ≤ x ∧ x ≤ g) : SumOk r where
  pos := fun x hx => (h x hx).1
  sz := by
    have p := prod_sz (m := 6) r fun x hx => ⟨(h x hx).1, by have := h x hx; show x.natAbs < 64; omega⟩
    exact p.mono (by omega)
  len := by omega

/-- the numbers up to n that divide n -/
def divs (n : Nat) : List Int := (upto n).filter fun k => decide ((n : Int) % k = 0)
theorem divs_len (n : Nat) : (divs n).length ≤ n := by
  have := List.length_filter_le (fun k => decide ((n : Int) % k = 0)) (upto n)
  rw [upto_length] at this
  exact this
theorem mem_divs {n : Nat} {x : Int} : x ∈ divs n ↔ (1 ≤ x ∧ x ≤ n) ∧ (n : Int) % x = 0 := by
  unfold divs
  rw [List.mem_filter, mem_upto, decide_eq_true_eq]
theorem divs_nodup (n : Nat) : (divs n).Nodup := by
  have up : ∀ m : Nat, (upto m).Nodup := fun m => by
    refine List.pairwise_map.mpr (List.nodup_range.imp fun {a b} h z => h ?_)
    omega
  exact List.Pairwise.filter _ (up n)
/-- a divisor or its fellow is at most 31 -/
theorem divs_few {n : Nat} (h : n ≤ 1000) : (divs n).length ≤ 62 := by
  have s : divs n ⊆ upto 31 ++ (upto 31).map fun k => (n : Int) / k := fun x hx => by
    obtain ⟨⟨x1, x2⟩, x3⟩ := mem_divs.mp hx
    have e := Int.emod_add_mul_ediv (n : Int) x
    rw [x3, Int.zero_add] at e
    by_cases c : x ≤ 31
    · exact List.mem_append_left _ (mem_upto.mpr ⟨x1, by omega⟩)
    · refine List.mem_append_right _ (List.mem_map.mpr ⟨(n : Int) / x, mem_upto.mpr ⟨?_, ?_⟩, ?_⟩)
      · by_cases z : 1 ≤ (n : Int) / x
        · exact z
        · have : x * ((n : Int) / x) ≤ x * 0 := Int.mul_le_mul_of_nonneg_left (by omega) (by omega)
          omega
      · by_cases z : (n : Int) / x ≤ 31
        · omega
        · have : 32 * 32 ≤ x * ((n : Int) / x) := Int.mul_le_mul (by omega) (by omega) (by omega) (by omega)
          omega
      · have q : 1 ≤ (n : Int) / x := by
          by_cases z : 1 ≤ (n : Int) / x
          · exact z
          · have : x * ((n : Int) / x) ≤ x * 0 := Int.mul_le_mul_of_nonneg_left (by omega) (by omega)
            omega
        generalize (n : Int) / x = y at *
        rw [← e, Int.mul_ediv_cancel _ (by omega)]
  have l := List.Nodup.length_le_of_subset (divs_nodup n) s
  rw [List.length_append, List.length_map, upto_length] at l
  exact l

--: math = divs
--: math = ris
/-! ### which sums a row has -/
/-- a dict whose keys are these, each with True -/
def kvI (ks : List Int) : List (L2.Key × V) := ks.map fun k => (Sum.inl k, .bl true)
def putI (ks : List Int) (x : Int) : List Int := if x ∈ ks then ks else ks ++ [x]
theorem any_kv (x : Int) : ∀ ks : List Int, ((kvI ks).any fun kv => decide (kv.1 = (Sum.inl x : L2.Key))) = decide (x ∈ ks)
  | [] => by simp [kvI]
  | y :: ks => by
    have ih := any_kv x ks
    unfold kvI at ih ⊢
    rw [List.map_cons, List.any_cons, ih, Bool.eq_iff_iff, Bool.or_eq_true, decide_eq_true_eq, decide_eq_true_eq, decide_eq_true_eq, List.mem_cons]
    exact or_congr ⟨fun z => (Sum.inl.inj z).symm, fun z => congrArg Sum.inl z.symm⟩ Iff.rfl
theorem val_kv (ks : List Int) (x : Int) : (valV (kvI ks) (Sum.inl x : L2.Key)).isSome = decide (x ∈ ks) := by
  rw [← valV_any, any_kv]
theorem put_kv (ks : List Int) (x : Int) : putK (kvI ks) (Sum.inl x : L2.Key) (.bl true) = kvI (putI ks x) := by
  unfold putK putI
  rw [any_kv]
  by_cases h : x ∈ ks
  · rw [if_pos (decide_eq_true h), if_pos h]
    unfold kvI
    rw [List.map_map]
    refine List.map_congr_left fun y _ => ?_
    show (if (Sum.inl y : L2.Key) = Sum.inl x then _ else _) = _
    split <;> rfl
  · rw [if_neg (by simpa using h), if_neg h]
    unfold kvI
    rw [List.map_append] <;> rfl
theorem kvI_len (ks : List Int) : (kvI ks).length = ks.length := List.length_map _
theorem kvI_keys (ks : List Int) : ((kvI ks).map fun kv => kV kv.1) = ks.map V.int := by
  unfold kvI
  rw [List.map_map] <;> rfl
theorem mem_putI {ks : List Int} {x y : Int} : y ∈ putI ks x ↔ y ∈ ks ∨ y = x := by
  unfold putI
  split
  · constructor
    · exact .inl
    · rintro (h | rfl) <;> assumption
  · simp
/-- to ks each t + n, t of src, where p allows it -/
def addP (p : Int → Bool) (n : Int) (ks src : List Int) : List Int := src.foldl (fun m t => if p (t + n) = true then putI m (t + n) else m) ks
theorem addP_snoc (p : Int → Bool) (n : Int) (ks src : List Int) (t : Int) : addP p n ks (src ++ [t]) = if p (t + n) = true then putI (addP p n ks src) (t + n) else addP p n ks src := by
  unfold addP
  rw [List.foldl_append] <;> rfl
theorem mem_addP {p : Int → Bool} {n x : Int} {ks : List Int} (src : List Int) : x ∈ addP p n ks src ↔ x ∈ ks ∨ (p x = true ∧ x - n ∈ src) := by
  refine snoc_ind (fun src => x ∈ addP p n ks src ↔ x ∈ ks ∨ (p x = true ∧ x - n ∈ src)) src ?_ (fun l t ih => ?_)
  · show x ∈ ks ↔ _
    simp
  · rw [addP_snoc]
    by_cases h : p (t + n) = true
    · rw [if_pos h, mem_putI, ih, List.mem_append, List.mem_singleton]
      constructor
      · rintro ((a | ⟨a, b⟩) | rfl)
        · exact .inl a
        · exact .inr ⟨a, .inl b⟩
        · exact .inr ⟨h, .inr (by omega)⟩
      · rintro (a | ⟨a, b | b⟩)
        · exact .inl (.inl a)
        · exact .inl (.inr ⟨a, b⟩)
        · exact .inr (by omega)
    · rw [if_neg h, ih, List.mem_append, List.mem_singleton]
      constructor
      · rintro (a | ⟨a, b⟩)
        · exact .inl a
        · exact .inr ⟨a, .inl b⟩
      · rintro (a | ⟨a, b | b⟩)
        · exact .inl a
        · exact .inr ⟨a, b⟩
        · have e : x = t + n := by omega
          rw [e] at a
          exact absurd a h
/-- the sums of the first k of a row, those that p allows -/
def tabs (p : Int → Bool) (row : List Int) : Nat → List Int
  | 0 => [0]
  | k + 1 => match row[k]? with
    | some n => addP p n (tabs p row k) (tabs p row k)
    | none => tabs p row k
theorem tabs_at {p : Int → Bool} {row : List Int} {k : Nat} {n : Int} (h : row[k]? = some n) : tabs p row (k + 1) = addP p n (tabs p row k) (tabs p row k) := by
  show (match row[k]? with | some n => addP p n (tabs p row k) (tabs p row k) | none => tabs p row k) = _
  rw [h]
theorem tabs_no {p : Int → Bool} {row : List Int} {k : Nat} (h : row[k]? = none) : tabs p row (k + 1) = tabs p row k := by
  show (match row[k]? with | some n => addP p n (tabs p row k) (tabs p row k) | none => tabs p row k) = _
  rw [h]
theorem nodup_putI {ks : List Int} {x : Int} (h : ks.Nodup) : (putI ks x).Nodup := by
  unfold putI
  split
  · exact h
  · rename_i c
    exact nd_snoc h c
theorem nodup_addP {p : Int → Bool} {n : Int} {ks : List Int} (h : ks.Nodup) (src : List Int) : (addP p n ks src).Nodup := by
  refine snoc_ind (fun src => (addP p n ks src).Nodup) src h (fun l t ih => ?_)
  rw [addP_snoc]
  split
  · exact nodup_putI ih
  · exact ih
/-- a row of numbers from one to M -/
def Row (M : Int) (row : List Int) : Prop := ∀ x ∈ row, (1 : Int) ≤ x ∧ x ≤ M
theorem tabs_in {p : Int → Bool} {row : List Int} {M : Int} (h : Row M row) (hM : 0 ≤ M) : ∀ k, (tabs p row k).Nodup ∧ (∀ x ∈ tabs p row k, 0 ≤ x ∧ x ≤ M * k)
  | 0 => ⟨by simp [tabs], fun x hx => by
    rw [List.mem_singleton.mp hx]
    exact ⟨Int.le_refl 0, by rw [Int.natCast_zero, Int.mul_zero] <;> exact Int.le_refl 0⟩⟩
  | k + 1 => by
    obtain ⟨i1, i2⟩ := tabs_in (p := p) h hM k
    have e : M * ((k + 1 : Nat) : Int) = M * k + M := by rw [Int.natCast_add, Int.mul_add] <;> simp
    cases er : row[k]? with
    | none =>
      rw [tabs_no er]
      exact ⟨i1, fun x hx => by have := i2 x hx; omega⟩
    | some n =>
      have hn := h n (List.mem_of_getElem? er)
      rw [tabs_at er]
      refine ⟨nodup_addP i1 _, fun x hx => ?_⟩
      rcases (mem_addP _).mp hx with a | ⟨_, a⟩
      · have := i2 x a
        omega
      · have := i2 _ a
        omega
theorem few_of {ks : List Int} {N : Int} (h : ks.Nodup) (hb : ∀ x ∈ ks, 0 ≤ x ∧ x ≤ N) : ks.length ≤ N.toNat + 1 := by
  have s : ks ⊆ 0 :: upto N.toNat := fun x hx => by
    have := hb x hx
    by_cases z : x = 0
    · rw [z]
      exact List.mem_cons_self
    · exact List.mem_cons_of_mem _ (mem_upto.mpr ⟨by omega, by omega⟩)
  have := List.Nodup.length_le_of_subset h s
  rw [List.length_cons, upto_length] at this
  exact this
theorem tabs_len {p : Int → Bool} {row : List Int} (h : Row 1000 row) {k : Nat} (hk : k ≤ 1000) : (tabs p row k).length ≤ 1000001 := by
  obtain ⟨a, b⟩ := tabs_in (p := p) h (by decide) k
  have := few_of a b
  omega
theorem mem_tabs {p : Int → Bool} {row : List Int} {k : Nat} {n x : Int} (h : row[k]? = some n) : x ∈ tabs p row (k + 1) ↔ x ∈ tabs p row k ∨ (p x = true ∧ x - n ∈ tabs p row k) := by
  rw [tabs_at h, mem_addP]
/-- what a lid leaves out does not matter below it -/
theorem tabs_lid {row : List Int} {M W : Int} (h : Row M row) : ∀ (k : Nat) (x : Int), x ≤ W → (x ∈ tabs (fun x => decide (x ≤ W)) row k ↔ x ∈ tabs (fun _ => true) row k)
  | 0, x, _ => Iff.rfl
  | k + 1, x, hx => by
    cases er : row[k]? with
    | none =>
      rw [tabs_no er, tabs_no er]
      exact tabs_lid h k x hx
    | some n =>
      have hn := h n (List.mem_of_getElem? er)
      rw [mem_tabs er, mem_tabs er, tabs_lid h k x hx, tabs_lid h k (x - n) (by omega)]
      exact or_congr Iff.rfl (and_congr ⟨fun _ => rfl, fun _ => decide_eq_true hx⟩ Iff.rfl)
/-- taken from the greatest on: what is taken, and what is left -/
def gr (tb : Nat → List Int) (row : List Int) : Nat → Int → List Int × Int
  | 0, w => ([], w)
  | k + 1, w => match row[k]? with
    | none => gr tb row k w
    | some r => if r ≤ w ∧ w - r ∈ tb k then (r :: (gr tb row k (w - r)).1, (gr tb row k (w - r)).2) else gr tb row k w
theorem gr_yes {tb : Nat → List Int} {row : List Int} {k : Nat} {w r : Int} (h : row[k]? = some r) (c : r ≤ w ∧ w - r ∈ tb k) : gr tb row (k + 1) w = (r :: (gr tb row k (w - r)).1, (gr tb row k (w - r)).2) := by
  show (match row[k]? with | none => gr tb row k w | some r => if r ≤ w ∧ w - r ∈ tb k then (r :: (gr tb row k (w - r)).1, (gr tb row k (w - r)).2) else gr tb row k w) = _
  rw [h]
  exact if_pos c
theorem gr_not {tb : Nat → List Int} {row : List Int} {k : Nat} {w r : Int} (h : row[k]? = some r) (c : ¬ (r ≤ w ∧ w - r ∈ tb k)) : gr tb row (k + 1) w = gr tb row k w := by
  show (match row[k]? with | none => gr tb row k w | some r => if r ≤ w ∧ w - r ∈ tb k then (r :: (gr tb row k (w - r)).1, (gr tb row k (w - r)).2) else gr tb row k w) = _
  rw [h]
  exact if_neg c
theorem gr_none {tb : Nat → List Int} {row : List Int} {k : Nat} {w : Int} (h : row[k]? = none) : gr tb row (k + 1) w = gr tb row k w := by
  show (match row[k]? with | none => gr tb row k w | some r => if r ≤ w ∧ w - r ∈ tb k then (r :: (gr tb row k (w - r)).1, (gr tb row k (w - r)).2) else gr tb row k w) = _
  rw [h]
theorem gr_lid {row : List Int} {M W : Int} (h : Row M row) : ∀ (k : Nat) (w : Int), w ≤ W → gr (tabs (fun x => decide (x ≤ W)) row) row k w = gr (tabs (fun _ => true) row) row k w
  | 0, _, _ => rfl
  | k + 1, w, hw => by
    cases er : row[k]? with
    | none =>
      rw [gr_none er, gr_none er]
      exact gr_lid h k w hw
    | some r =>
      have hr := h r (List.mem_of_getElem? er)
      have e := tabs_lid (W := W) h k (w - r) (by omega)
      by_cases c : r ≤ w ∧ w - r ∈ tabs (fun _ => true) row k
      · rw [gr_yes er c, gr_yes er ⟨c.1, e.mpr c.2⟩, gr_lid h k (w - r) (by omega)]
      · rw [gr_not er c, gr_not er fun z => c ⟨z.1, e.mp z.2⟩, gr_lid h k w hw]
/-- nothing is left just where the row has the sum -/
theorem gr_zero {row : List Int} {M : Int} (h : Row M row) (hM : 0 ≤ M) : ∀ (k : Nat) (w : Int), 0 ≤ w → 0 ≤ (gr (tabs (fun _ => true) row) row k w).2 ∧ ((gr (tabs (fun _ => true) row) row k w).2 = 0 ↔ w ∈ tabs (fun _ => true) row k)
  | 0, w, hw => ⟨hw, by
    show w = 0 ↔ w ∈ [0]
    simp⟩
  | k + 1, w, hw => by
    cases er : row[k]? with
    | none =>
      rw [gr_none er, tabs_no er]
      exact gr_zero h hM k w hw
    | some r =>
      have hr := h r (List.mem_of_getElem? er)
      rw [mem_tabs er]
      by_cases c : r ≤ w ∧ w - r ∈ tabs (fun _ => true) row k
      · obtain ⟨a, b⟩ := gr_zero h hM k (w - r) (by omega)
        rw [gr_yes er c]
        exact ⟨a, b.trans ⟨fun z => .inr ⟨rfl, z⟩, fun _ => c.2⟩⟩
      · obtain ⟨a, b⟩ := gr_zero h hM k w hw
        rw [gr_not er c]
        refine ⟨a, b.trans ⟨.inl, fun z => z.resolve_right fun z => c ⟨?_, z.2⟩⟩⟩
        have := (tabs_in (p := fun _ => true) h hM k).2 _ z.2
        omega
theorem gr_sum {tb : Nat → List Int} {row : List Int} : ∀ (k : Nat) (w : Int), (gr tb row k w).1.sum + (gr tb row k w).2 = w
  | 0, w => by
    show (0 : Int) + w = w
    omega
  | k + 1, w => by
    cases er : row[k]? with
    | none =>
      rw [gr_none er]
      exact gr_sum k w
    | some r =>
      by_cases c : r ≤ w ∧ w - r ∈ tb k
      · have := gr_sum (tb := tb) (row := row) k (w - r)
        rw [gr_yes er c]
        show (r :: _).sum + _ = w
        rw [List.sum_cons]
        omega
      · rw [gr_not er c]
        exact gr_sum k w
theorem gr_mem {tb : Nat → List Int} {row : List Int} : ∀ (k : Nat) (w : Int), ∀ x ∈ (gr tb row k w).1, ∃ j, j < k ∧ row[j]? = some x
  | 0, w => fun x hx => nomatch hx
  | k + 1, w => fun x hx => by
    have low : ∀ w, x ∈ (gr tb row k w).1 → ∃ j, j < k + 1 ∧ row[j]? = some x := fun w hx => by
      obtain ⟨j, a, b⟩ := gr_mem k w x hx
      exact ⟨j, by omega, b⟩
    cases er : row[k]? with
    | none =>
      rw [gr_none er] at hx
      exact low w hx
    | some r =>
      by_cases c : r ≤ w ∧ w - r ∈ tb k
      · rw [gr_yes er c] at hx
        rcases List.mem_cons.mp hx with rfl | hx
        · exact ⟨k, by omega, er⟩
        · exact low _ hx
      · rw [gr_not er c] at hx
        exact low w hx
theorem gr_falls {tb : Nat → List Int} {row : List Int} (hr : Ris row) : ∀ (k : Nat) (w : Int), (gr tb row k w).1.Pairwise (· > ·)
  | 0, w => List.Pairwise.nil
  | k + 1, w => by
    cases er : row[k]? with
    | none =>
      rw [gr_none er]
      exact gr_falls hr k w
    | some r =>
      by_cases c : r ≤ w ∧ w - r ∈ tb k
      · rw [gr_yes er c]
        refine List.pairwise_cons.mpr ⟨fun x hx => ?_, gr_falls hr k _⟩
        obtain ⟨j, a, b⟩ := gr_mem k _ x hx
        obtain ⟨h1, rfl⟩ := List.getElem?_eq_some_iff.mp er
        obtain ⟨h2, rfl⟩ := List.getElem?_eq_some_iff.mp b
        exact List.pairwise_iff_getElem.mp hr j k h2 h1 a
      · rw [gr_not er c]
        exact gr_falls hr k w
theorem gr_len {tb : Nat → List Int} {row : List Int} : ∀ (k : Nat) (w : Int), (gr tb row k w).1.length ≤ k
  | 0, w => Nat.le_refl 0
  | k + 1, w => by
    cases er : row[k]? with
    | none =>
      rw [gr_none er]
      exact Nat.le_succ_of_le (gr_len k w)
    | some r =>
      by_cases c : r ≤ w ∧ w - r ∈ tb k
      · rw [gr_yes er c]
        exact Nat.succ_le_succ (gr_len k _)
      · rw [gr_not er c]
        exact Nat.le_succ_of_le (gr_len k w)
/-! ### parts of a number -/
theorem ris_upto : ∀ n : Nat, Ris (upto n)
  | 0 => List.Pairwise.nil
  | n + 1 => by
    rw [upto_succ]
    refine List.pairwise_append.mpr ⟨ris_upto n, List.pairwise_singleton _ _, fun x hx y hy => ?_⟩
    have := mem_upto.mp hx
    rw [List.mem_singleton.mp hy]
    omega
theorem ris_divs (n : Nat) : Ris (divs n) := List.Pairwise.filter _ (ris_upto n)
theorem row_divs {n : Nat} {M : Int} (h : (n : Int) ≤ M) : Row M (divs n) := fun x hx => by
  have := (mem_divs.mp hx).1
  omega
def allT (n : Nat) : Nat → List Int := tabs (fun _ => true) (divs n)
/-- the parts of w by n, where there are -/
def partsF (n : Nat) (w : Int) : Option (List Int) := if w ∈ allT n (divs n).length then some (gr (allT n) (divs n) (divs n).length w).1 else none
theorem partsF_some {n : Nat} {w : Int} {l : List Int} (h : partsF n w = some l) (hw : 0 ≤ w) : l.sum = w ∧ l.Pairwise (· > ·) ∧ (∀ x ∈ l, x ∈ divs n) ∧ l.length ≤ (divs n).length := by
  unfold partsF at h
  split at h
  · rename_i c
    cases h
    have z := ((gr_zero (row_divs (Int.le_refl (n : Int))) (Int.natCast_nonneg n) (divs n).length w hw).2).mpr c
    have s := gr_sum (tb := allT n) (row := divs n) (divs n).length w
    refine ⟨?_, gr_falls (ris_divs n) _ _, fun x hx => ?_, gr_len _ _⟩
    · have z : (gr (allT n) (divs n) (divs n).length w).2 = 0 := z
      omega
    · obtain ⟨j, _, b⟩ := gr_mem _ _ x hx
      exact List.mem_of_getElem? b
  · cases h
/-- the law's own walk tells the same -/
theorem partsF_lid {n : Nat} {w : Int} (hw : 0 ≤ w) : (if 0 < (gr (tabs (fun x => decide (x ≤ w)) (divs n)) (divs n) (divs n).length w).2 then none else some (gr (tabs (fun x => decide (x ≤ w)) (divs n)) (divs n) (divs n).length w).1) = partsF n w := by
  rw [gr_lid (row_divs (Int.le_refl (n : Int))) _ w (Int.le_refl w)]
  obtain ⟨a, b⟩ := gr_zero (row_divs (Int.le_refl (n : Int))) (Int.natCast_nonneg n) (divs n).length w hw
  unfold partsF
  by_cases c : w ∈ allT n (divs n).length
  · rw [if_pos c, if_neg (by have := b.mpr c; omega)] <;> rfl
  · rw [if_neg c, if_pos]
    have : ¬ (gr (tabs (fun _ => true) (divs n)) (divs n) (divs n).length w).2 = 0 := fun z => c (b.mp z)
    omega
/-! ### the dicts in a list -/
/-- at F a list of m + 1 dicts: the tables 0 to m -/
structure TabsAt (H : Hp) (F : Addr) (tb : Nat → List Int) (m : Nat) (ds : List Addr) : Prop where
  lst : H F = some (.lst (ds.map V.ref))
  len : ds.length = m + 1
  each : ∀ (j : Nat) (d : Addr), ds[j]? = some d → H d = some (.dK (kvI (tb j)))
theorem TabsAt.same {H H' : Hp} {F : Addr} {tb : Nat → List Int} {m : Nat} {ds : List Addr} (h : TabsAt H F tb m ds) (s : Same H H') : TabsAt H' F tb m ds := ⟨s _ _ h.lst, h.len, fun j d e => s _ _ (h.each j d e)⟩
theorem TabsAt.at {H : Hp} {F : Addr} {tb : Nat → List Int} {m : Nat} {ds : List Addr} (h : TabsAt H F tb m ds) {j : Nat} (hj : j ≤ m) : ∃ d, (ds.map V.ref)[j]? = some (.ref d) ∧ H d = some (.dK (kvI (tb j))) := by
  have l := h.len
  have hl : j < ds.length := by omega
  exact ⟨ds[j], get_map (List.getElem?_eq_getElem hl), h.each j _ (List.getElem?_eq_getElem hl)⟩
theorem atI_neg1 {α : Type} {xs : List α} {v : α} (h : xs[xs.length - 1]? = some v) : atI xs (-1) = some v := by
  have hl := lt_of_get h
  have e : xs = xs.dropLast ++ [v] := by
    have ne : xs ≠ [] := fun z => by
      rw [z] at hl
      exact absurd hl (by simp)
    rw [← List.dropLast_concat_getLast ne] at h ⊢
    congr 1
    · rw [List.dropLast_concat]
    · rw [List.getLast_eq_getElem ne]
      have := (List.getElem?_eq_some_iff.mp (by rw [List.dropLast_concat_getLast ne] at h; exact h)).2
      rw [this]
  rw [e]
  exact atI_last _ _
theorem TabsAt.last {H : Hp} {F : Addr} {tb : Nat → List Int} {m : Nat} {ds : List Addr} (h : TabsAt H F tb m ds) : ∃ d, atI (ds.map V.ref) (-1) = some (.ref d) ∧ H d = some (.dK (kvI (tb m))) := by
  obtain ⟨d, e1, e2⟩ := h.at (Nat.le_refl m)
  refine ⟨d, atI_neg1 ?_, e2⟩
  rw [List.length_map, h.len]
  exact e1
theorem TabsAt.push {H : Hp} {F M : Addr} {tb : Nat → List Int} {m : Nat} {ds : List Addr} (h : TabsAt H F tb m ds) (eM : H M = some (.dK (kvI (tb (m + 1))))) : TabsAt (upd H F (.lst (ds.map V.ref ++ [.ref M]))) F tb (m + 1) (ds ++ [M]) := ⟨by rw [upd_same, List.map_append] <;> rfl, by rw [List.length_append, h.len] <;> rfl, fun j d e => by
  have k : H d = some (.dK (kvI (tb j))) := by
    by_cases c : j < ds.length
    · rw [List.getElem?_append_left c] at e
      exact h.each j d e
    · have hl := h.len
      have hj := lt_of_get e
      rw [List.length_append, List.length_singleton] at hj
      obtain rfl : j = m + 1 := by omega
      rw [List.getElem?_append_right (by omega), hl, Nat.sub_self] at e
      cases e
      exact eM
  rw [upd_ne (ne_of k h.lst (fun z => by cases z))]
  exact k⟩
theorem addP_len {p : Int → Bool} {n : Int} {ks : List Int} (src : List Int) : (addP p n ks src).length ≤ ks.length + src.length := by
  refine snoc_ind (fun src => (addP p n ks src).length ≤ ks.length + src.length) src (Nat.le_refl _) (fun l t ih => ?_)
  rw [addP_snoc, List.length_append, List.length_singleton]
  split
  · unfold putI
    split
    · omega
    · rw [List.length_append, List.length_singleton]
      omega
  · omega
theorem nodup_falls {l : List Int} (h : l.Pairwise (· > ·)) : l.Nodup := h.imp fun z => by omega

--: math = parts
--: math = sums
/-! ### by which m a fraction goes -/
def goR (T B : Int) : Nat → Int → Option (Int × List Int)
  | 0, _ => none
  | n + 1, m => if 1000 < B * m then none else match partsF (B * m).toNat (T * m) with
    | some l => some (m, l.map fun p => B * m / p)
    | none => goR T B n (m + 1)
theorem goR_great {T B m : Int} {n : Nat} (h : 1000 < B * m) : goR T B (n + 1) m = none := if_pos h
theorem goR_some {T B m : Int} {n : Nat} {l : List Int} (h : ¬ 1000 < B * m) (e : partsF (B * m).toNat (T * m) = some l) : goR T B (n + 1) m = some (m, l.map fun p => B * m / p) := by
  show (if 1000 < B * m then none else match partsF (B * m).toNat (T * m) with | some l => some (m, l.map fun p => B * m / p) | none => goR T B n (m + 1)) = _
  rw [if_neg h, e]
theorem goR_none {T B m : Int} {n : Nat} (h : ¬ 1000 < B * m) (e : partsF (B * m).toNat (T * m) = none) : goR T B (n + 1) m = goR T B n (m + 1) := by
  show (if 1000 < B * m then none else match partsF (B * m).toNat (T * m) with | some l => some (m, l.map fun p => B * m / p) | none => goR T B n (m + 1)) = _
  rw [if_neg h, e]
/-- the least m up to most, and the shares -/
def goF (T B : Int) (most : Int) : Option (Int × List Int) := goR T B most.toNat 1
/-- a list of numbers each of which divides N -/
theorem quot_mul {N p : Int} (h : 1 ≤ p) (d : N % p = 0) : p * (N / p) = N := by
  have e := Int.emod_add_mul_ediv N p
  omega
theorem quot_ris {N : Int} (hN : 1 ≤ N) {l : List Int} (h : ∀ x ∈ l, 1 ≤ x ∧ N % x = 0) (f : l.Pairwise (· > ·)) : Ris (l.map fun p => N / p) := by
  refine List.pairwise_map.mpr (f.imp_of_mem fun {x y} hx hy g => ?_)
  obtain ⟨x1, x2⟩ := h x hx
  obtain ⟨y1, y2⟩ := h y hy
  have ex := quot_mul x1 x2
  have ey := quot_mul y1 y2
  have g : y < x := g
  have qx : 1 ≤ N / x := by
    by_cases z : 1 ≤ N / x
    · exact z
    · have : x * (N / x) ≤ x * 0 := Int.mul_le_mul_of_nonneg_left (by omega) (by omega)
      omega
  refine Int.lt_of_mul_lt_mul_left (a := y) ?_ (by omega)
  rw [ey]
  have : y * (N / x) < x * (N / x) := Int.mul_lt_mul_of_pos_right g (by omega)
  omega
theorem quot_in {N : Int} (hN : 1 ≤ N) {x : Int} (h : 1 ≤ x ∧ N % x = 0) : 1 ≤ N / x ∧ N / x ≤ N := by
  have e := quot_mul h.1 h.2
  have q : 1 ≤ N / x := by
    by_cases z : 1 ≤ N / x
    · exact z
    · have : x * (N / x) ≤ x * 0 := Int.mul_le_mul_of_nonneg_left (by omega) (by omega)
      omega
  refine ⟨q, ?_⟩
  have : 1 * (N / x) ≤ x * (N / x) := Int.mul_le_mul_of_nonneg_right h.1 (by omega)
  omega
theorem fold_quot {N : Int} : ∀ (l : List Int) (u v : Int), (∀ x ∈ l, 1 ≤ x ∧ N % x = 0 ∧ 1 ≤ N / x) →
    ((l.map fun p => N / p).foldl (fun q s => (q.1 * s + q.2, q.2 * s)) (u, v)).1 * (v * N) = (u * N + l.sum * v) * ((l.map fun p => N / p).foldl (fun q s => (q.1 * s + q.2, q.2 * s)) (u, v)).2
  | [], u, v, _ => by
    show u * (v * N) = (u * N + 0 * v) * v
    rw [Int.zero_mul, Int.add_zero, Int.mul_comm v N, Int.mul_assoc u]
  | p :: l, u, v, h => by
    obtain ⟨p1, p2, p3⟩ := h p List.mem_cons_self
    have e := fold_quot l (u * (N / p) + v) (v * (N / p)) fun x hx => h x (List.mem_cons_of_mem _ hx)
    have ep := quot_mul p1 p2
    rw [List.sum_cons]
    show ((l.map fun p => N / p).foldl _ (u * (N / p) + v, v * (N / p))).1 * (v * N) = (u * N + (p + l.sum) * v) * ((l.map fun p => N / p).foldl _ (u * (N / p) + v, v * (N / p))).2
    revert e
    generalize (l.map fun p => N / p).foldl (fun q s => (q.1 * s + q.2, q.2 * s)) (u * (N / p) + v, v * (N / p)) = X
    generalize N / p = y at *
    obtain ⟨a, b⟩ := X
    intro e
    have e : a * (v * y * N) = ((u * y + v) * N + l.sum * (v * y)) * b := e
    show a * (v * N) = (u * N + (p + l.sum) * v) * b
    refine Int.eq_of_mul_eq_mul_right (a := y) (by omega) ?_
    have k1 : a * (v * N) * y = a * (v * y * N) := by simp only [Int.mul_comm, Int.mul_left_comm, Int.mul_assoc]
    have k2 : (u * N + (p + l.sum) * v) * b * y = ((u * y + v) * N + l.sum * (v * y)) * b := by
      have : p * v * y = v * N := by
        rw [← ep]
        simp only [Int.mul_comm, Int.mul_left_comm, Int.mul_assoc]
      rw [Int.mul_right_comm]
      congr 1
      rw [Int.add_mul, Int.add_mul p, Int.add_mul (p * v), this, Int.add_mul (u * y)]
      simp only [Int.mul_comm, Int.mul_left_comm, Int.mul_assoc]
      omega
    rw [k1, k2, e]
/-- what the answer is good for -/
structure Goes (T B : Int) (xs : List Int) : Prop where
  ris : Ris xs
  each : ∀ x ∈ xs, (1 : Int) ≤ x ∧ x ≤ 1000
  len : xs.length ≤ 62
  sum : lowS xs = low T B
theorem goR_ok {T B : Int} (hT : 0 ≤ T) (hB : 1 ≤ B) : ∀ (n : Nat) (m : Int), 1 ≤ m → ∀ r, goR T B n m = some r → Goes T B r.2 ∧ m ≤ r.1
  | 0, m, _, r, e => nomatch e
  | n + 1, m, hm, r, e => by
    by_cases c : 1000 < B * m
    · rw [goR_great c] at e
      cases e
    · have N1 : 1 ≤ B * m := Int.mul_pos (by omega) (by omega)
      have eN : (((B * m).toNat : Nat) : Int) = B * m := by omega
      have w0 : 0 ≤ T * m := Int.mul_nonneg hT (by omega)
      cases ep : partsF (B * m).toNat (T * m) with
      | none =>
        rw [goR_none c ep] at e
        obtain ⟨a, b⟩ := goR_ok hT hB n (m + 1) (by omega) r e
        exact ⟨a, by omega⟩
      | some l =>
        rw [goR_some c ep] at e
        cases e
        obtain ⟨l1, l2, l3, l4⟩ := partsF_some ep w0
        have d : ∀ x ∈ l, 1 ≤ x ∧ B * m % x = 0 := fun x hx => by
          have := mem_divs.mp (l3 x hx)
          rw [eN] at this
          exact ⟨this.1.1, this.2⟩
        have each : ∀ x ∈ (l.map fun p => B * m / p), (1 : Int) ≤ x ∧ x ≤ 1000 := fun x hx => by
          obtain ⟨p, hp, rfl⟩ := List.mem_map.mp hx
          have := quot_in N1 (d p hp)
          omega
        refine ⟨⟨quot_ris N1 d l2, each, by rw [List.length_map]; exact Nat.le_trans l4 (divs_few (by omega)), ?_⟩, Int.le_refl m⟩
        have f := fold_quot (N := B * m) l 0 1 fun x hx => ⟨(d x hx).1, (d x hx).2, (quot_in N1 (d x hx)).1⟩
        have f : (sumS (l.map fun p => B * m / p)).1 * (1 * (B * m)) = (0 * (B * m) + l.sum * 1) * (sumS (l.map fun p => B * m / p)).2 := f
        rw [Int.zero_mul, Int.mul_one, Int.one_mul, Int.zero_add, l1] at f
        have b := (sumS_pos (l.map fun p => B * m / p) fun x hx => (each x hx).1).2.1
        show low _ _ = _
        rw [low_uniq (by omega) (by omega) f, low_scale (by omega)]
theorem goF_ok {T B most m : Int} {xs : List Int} (hT : 0 ≤ T) (hB : 1 ≤ B) (e : goF T B most = some (m, xs)) : Goes T B xs := (goR_ok hT hB _ 1 (Int.le_refl 1) _ e).1
theorem Goes.sumC {T B : Int} {xs : List Int} (h : Goes T B xs) (hT : 0 ≤ T) (hB : 1 ≤ B) (z1 : Sz 3000 T) (z2 : Sz 3000 B) : SumC xs := by
  have pos : Pos xs := fun x hx => (h.each x hx).1
  obtain ⟨a, b, c⟩ := sumS_pos _ pos
  have e : low (sumS xs).1 (sumS xs).2 = low T B := h.sum
  have n1 : Sz 3000 (low T B).1 := z1.le (low_tnn hB hT) (low_tle hT)
  have n2 : Sz 3000 (low T B).2 := z2.le (by have := low_bpos (t := T) hB; omega) (low_ble hB)
  rw [← e] at n1 n2
  obtain ⟨d1, d2⟩ := low_near b n1 n2
  refine ⟨pos, ?_, Nat.le_trans h.len (by decide), d1, d2⟩
  have p := prod_sz (m := 10) xs fun x hx => ⟨(h.each x hx).1, by have := h.each x hx; show x.natAbs < 1024; omega⟩
  have := h.len
  exact p.mono (by omega)
/-- an answer as it stands in a heap -/
def GoAt (H : Hp) (p L : Addr) (m : Int) (xs : List Int) : Prop := H p = some (.tup [.int m, .ref L]) ∧ H L = some (.lst (xs.map V.int))
theorem dp_go {K : PySem.W.Frag} {H : Hp} {p L : Addr} {m : Int} {xs : List Int} (h : GoAt H p L m xs) : Dp K H (.ref p) (.tuple [.int m, .list (xs.map PyData.int)]) :=
  .tup (SqT.of h.1) (.cons (.int m) (.cons (dp_ints (SqL.of h.2)) .nil))
theorem eqv_go (m : Int) (xs : List Int) : PyData.eqv (.tuple [.int m, .list (xs.map PyData.int)]) (.tuple [.int m, .list (xs.map PyData.int)]) = true := by
  have e := eqv_ints xs xs
  rw [decide_eq_true rfl] at e
  simp [PyData.eqv, PyData.eqvAll] at e ⊢
  exact e
theorem shaped_go (m : Int) (xs : List Int) : SeqAt.shaped (.tuple [.int m, .list (xs.map PyData.int)]) = true := by
  unfold SeqAt.shaped
  simp only [PyData.canLay0, PyData.canLayAll0, PyData.depth, PyData.depthAll, canLay_ints, depth_ints]
  rfl
theorem eqv_int (m : Int) : PyData.eqv (.int m) (.int m) = true := by simp [PyData.eqv]
theorem go_arg {x y : Int} {n : Nat} (h : x = n) : [V.int x, V.int y] = [V.int (n : Int), V.int y] := by rw [h]

--: math = rows
/-! ### the order of all ways -/
theorem ord_rw : ∀ (k : Nat) (l g : Int), (Rw k l g).Pairwise (· < ·)
  | 0, _, _ => List.pairwise_singleton _ _
  | k + 1, l, g => by
    refine List.pairwise_flatMap.mpr ⟨fun s _ => ?_, (ris_span l g).imp fun {s t} hst x hx y hy => ?_⟩
    · exact List.pairwise_map.mpr ((ord_rw k (s + 1) g).imp fun h => List.cons_lt_cons_iff.mpr (.inr ⟨rfl, h⟩))
    · obtain ⟨a, _, rfl⟩ := List.mem_map.mp hx
      obtain ⟨b, _, rfl⟩ := List.mem_map.mp hy
      exact List.cons_lt_cons_iff.mpr (.inl hst)
/-- fewer numbers first, of as many the lesser one at the first place where they differ -/
def Ahead (r t : List Int) : Prop := r.length < t.length ∨ (r.length = t.length ∧ r < t)
theorem ahead_rows (g : Int) (m : Nat) : (rowsF g m).Pairwise Ahead := by
  unfold rowsF
  refine List.pairwise_flatMap.mpr ⟨fun k _ => ?_, List.pairwise_lt_range.imp fun {i j} hij x hx y hy => ?_⟩
  · rw [lw_all]
    refine (ord_rw (k + 1) 1 g).imp_of_mem fun {a b} ha hb h => .inr ⟨?_, h⟩
    rw [(rw_mem ha).1, (rw_mem hb).1]
  · left
    rw [(lw_row hx).1, (lw_row hy).1]
    omega
/-- where a row of numbers from l to g stands -/
theorem rw_in : ∀ {r : List Int} {l g : Int}, (∀ x ∈ r, l ≤ x ∧ x ≤ g) → Ris r → r ∈ Rw r.length l g
  | [], _, _, _, _ => List.mem_cons_self
  | s :: r, l, g, h, p => by
    obtain ⟨p1, p2⟩ := List.pairwise_cons.mp p
    refine List.mem_flatMap.mpr ⟨s, mem_span.mpr (h s List.mem_cons_self), List.mem_map.mpr ⟨r, ?_, rfl⟩⟩
    exact rw_in (fun x hx => by have := p1 x hx; have := h x (List.mem_cons_of_mem _ hx); omega) p2
/-! ### >= of data -/
def rGeD (K : PySem.W.Frag) : R2 := fun x y H Q => ∃ d e, Dp K H x d ∧ Dp K H y e ∧ PySem.W.alike d e = true ∧ d ≠ .none ∧ d.depth ≤ 60 ∧ Q (.bl (!PySem.W.dataLt d e)) H
theorem op_geD {X : Cx} (hu : X.A.units + 64 < cLine) : OpR X (compareOp .GtE) (rGeD X.K) := by
  intro pins s σ H x y v u Q I rx ry h
  obtain ⟨d, e, hd, he, al, nn, dp, q⟩ := h
  obtain ⟨as, r1⟩ := Dp.reads I d x v hd rx
  obtain ⟨bs, r2⟩ := Dp.reads I e y u he ry
  exact PySem.W.ge_data r1 r2 al nn (by omega) ⟨.bl _, H, I, rfl, q⟩
theorem alike_ints : ∀ xs ys : List Int, PySem.W.alikeAll (xs.map PyData.int) (ys.map PyData.int) = true
  | [], _ => by simp [PySem.W.alikeAll]
  | _ :: _, [] => by simp [PySem.W.alikeAll]
  | x :: xs, y :: ys => by
    have ih := alike_ints xs ys
    simp [PySem.W.alikeAll, PySem.W.alike, ih]
theorem alike_list (xs ys : List Int) : PySem.W.alike (.list (xs.map PyData.int)) (.list (ys.map PyData.int)) = true := by
  have := alike_ints xs ys
  simp [PySem.W.alike, this]
theorem lt_ahead {r t : List Int} (h : Ahead r t) : PySem.W.dataLt (.tuple [.int (r.length : Int), .list (r.map PyData.int)]) (.tuple [.int (t.length : Int), .list (t.map PyData.int)]) = true := by
  have e : PySem.W.dataLt (.list (r.map PyData.int)) (.list (t.map PyData.int)) = decide (r < t) := by
    rw [PySem.W.dataLt_list]
    exact PySem.W.dataLt_ints r t
  have q : PyData.eqv (.int (r.length : Int)) (.int (t.length : Int)) = decide (r.length = t.length) := by
    simp only [PyData.eqv]
    rw [Bool.eq_iff_iff]
    simp
    omega
  rw [PySem.W.dataLt_pair (by simp [PySem.W.alike]) (alike_list r t), q, eqv_ints, e, PySem.W.dataLt_int]
  rcases h with h | ⟨h1, h2⟩
  · rw [decide_eq_false (by omega), if_neg (by simp)]
    exact decide_eq_true (by omega)
  · rw [decide_eq_true h1, if_pos rfl]
    have ne : r ≠ t := fun z => by
      rw [z] at h2
      exact absurd h2 (List.lt_irrefl t)
    rw [decide_eq_false ne, if_neg (by simp)]
    exact decide_eq_true h2
theorem room65 {k : Nat} {A : Around} (r : Room k A) : A.units + 65 < cLine := by
  have := r.un
  omega

--: math = greedy
--: math = rfp
--: math = rows
--: math = goes
--: math = order
/-! ### all that is told is a way -/
/-- what every row told is -/
structure Tld (t b : Int) (xs : List Int) : Prop where
  ris : Ris xs
  two : ∀ x ∈ xs, (2 : Int) ≤ x
  ne : xs ≠ []
  comes : Comes xs t b
  few : xs.length ≤ 62
  each : ∃ M : Nat, (∀ x ∈ xs, Sz M x) ∧ M * (xs.length + 2) + 3 ≤ 4000
theorem one_full (xs : List Int) : Pos xs → (1 : Int) ∈ xs → (sumS xs).2 ≤ (sumS xs).1 := by
  refine snoc_ind (fun xs => Pos xs → (1 : Int) ∈ xs → (sumS xs).2 ≤ (sumS xs).1) xs (fun _ h => nomatch h) (fun l s ih p m => ?_)
  obtain ⟨pl, hs⟩ := p.snoc
  obtain ⟨a, b, _⟩ := sumS_pos l pl
  rw [sumS_snoc]
  show (sumS l).2 * s ≤ (sumS l).1 * s + (sumS l).2
  rcases List.mem_append.mp m with m | m
  · have := Int.mul_le_mul_of_nonneg_right (ih pl m) (by omega : 0 ≤ s)
    omega
  · have : s = 1 := (List.mem_singleton.mp m).symm
    subst this
    omega
theorem tld_of {t b : Int} {xs : List Int} (h1 : 1 ≤ t) (h2 : t < b) (ris : Ris xs) (pos : Pos xs) (comes : Comes xs t b) (few : xs.length ≤ 62) (each : ∃ M : Nat, (∀ x ∈ xs, Sz M x) ∧ M * (xs.length + 2) + 3 ≤ 4000) : Tld t b xs := by
  refine ⟨ris, fun x hx => ?_, ?_, comes, few, each⟩
  · have := pos x hx
    by_cases z : x = 1
    · subst z
      have f := one_full xs pos hx
      have p := (sumS_pos xs pos).2.1
      have c : (sumS xs).1 * b = t * (sumS xs).2 := comes
      have l1 : (sumS xs).2 * b ≤ (sumS xs).1 * b := Int.mul_le_mul_of_nonneg_right f (by omega)
      have l2 : t * (sumS xs).2 < b * (sumS xs).2 := Int.mul_lt_mul_of_pos_right h2 (by omega)
      have l3 : (sumS xs).2 * b = b * (sumS xs).2 := Int.mul_comm _ _
      omega
    · omega
  · rintro rfl
    have c : (0 : Int) * b = t * 1 := comes
    omega
theorem comes_of {t b : Int} {xs : List Int} (h2 : 1 ≤ b) (pos : Pos xs) (e : lowS xs = low t b) : Comes xs t b :=
  low_of_eq (sumS_pos xs pos).2.1 e
theorem Tld.pos {t b : Int} {xs : List Int} (h : Tld t b xs) : Pos xs := fun x hx => by
  have := h.two x hx
  omega
theorem Tld.ok {t b : Int} {xs : List Int} (h : Tld t b xs) : SumOk xs where
  pos := h.pos
  sz := by
    obtain ⟨M, e, l⟩ := h.each
    refine (prod_sz (m := M) xs fun x hx => ⟨h.pos x hx, e x hx⟩).mono ?_
    rw [Nat.mul_add] at l
    omega
  len := by have := h.few; omega
theorem Tld.low {t b : Int} {xs : List Int} (h : Tld t b xs) (hb : 1 ≤ b) : lowS xs = low t b :=
  low_uniq (by have := (sumS_pos xs h.pos).2.1; omega) (by omega) h.comes
theorem sz_succ {M : Nat} {n : Int} (z : Sz M n) (h : 1 ≤ n) : Sz (M + 1) (n + 1) := z.add (Sz.le z (by omega) h)
/-- the last share parted -/
theorem Tld.parted {t b : Int} {ys : List Int} {n : Int} (h : Tld t b (ys ++ [n])) : SumOk (ys ++ [n + 1, n * (n + 1)]) ∧ Ris (ys ++ [n + 1, n * (n + 1)]) ∧ Comes (ys ++ [n + 1, n * (n + 1)]) t b := by
  have e2 : ys ++ [n + 1, n * (n + 1)] = (ys ++ [n + 1]) ++ [n * (n + 1)] := by rw [List.append_assoc] <;> rfl
  have n2 : (2 : Int) ≤ n := h.two n (List.mem_append_right _ List.mem_cons_self)
  have nn : n + 1 < n * (n + 1) := by
    have : 2 * (n + 1) ≤ n * (n + 1) := Int.mul_le_mul_of_nonneg_right n2 (by omega)
    omega
  obtain ⟨M, ez, l⟩ := h.each
  have zn : Sz M n := ez n (List.mem_append_right _ List.mem_cons_self)
  have py : Pos ys := fun x hx => h.pos x (List.mem_append_left _ hx)
  have p1 := (sumS_pos ys py).2.1
  refine ⟨⟨fun x hx => ?_, ?_, ?_⟩, ?_, ?_⟩
  · rcases List.mem_append.mp hx with m | m
    · exact py x m
    · simp only [List.mem_cons, List.not_mem_nil, or_false] at m
      omega
  · rw [e2, sumS_snoc, sumS_snoc]
    show Sz 4000 ((sumS ys).2 * (n + 1) * (n * (n + 1)))
    have z1 := sz_succ zn (by omega)
    have zp := prod_sz (m := M) ys fun x hx => ⟨py x hx, ez x (List.mem_append_left _ hx)⟩
    refine ((zp.mul z1).mul (zn.mul z1)).mono ?_
    rw [List.length_append] at l
    have : M * (ys.length + [n].length + 2) = M * ys.length + M * 3 := by
      rw [← Nat.mul_add] <;> rfl
    rw [this] at l
    omega
  · have := h.few
    rw [List.length_append] at this ⊢
    simp only [List.length_cons, List.length_nil] at this ⊢
    omega
  · obtain ⟨q1, _, q3⟩ := List.pairwise_append.mp h.ris
    refine List.pairwise_append.mpr ⟨q1, ?_, fun a ha c hc => ?_⟩
    · exact List.pairwise_cons.mpr ⟨fun c hc => by rw [List.mem_singleton.mp hc]; exact nn, List.pairwise_singleton _ _⟩
    · have := q3 a ha n List.mem_cons_self
      simp only [List.mem_cons, List.not_mem_nil, or_false] at hc
      omega
  · have c := h.comes
    unfold Comes at c ⊢
    rw [e2, sumS_snoc, sumS_snoc]
    rw [sumS_snoc] at c
    show (((sumS ys).1 * (n + 1) + (sumS ys).2) * (n * (n + 1)) + (sumS ys).2 * (n + 1)) * b = t * ((sumS ys).2 * (n + 1) * (n * (n + 1)))
    have c : ((sumS ys).1 * n + (sumS ys).2) * b = t * ((sumS ys).2 * n) := c
    generalize (sumS ys).1 = u at *
    generalize (sumS ys).2 = v at *
    have l1 : ((u * (n + 1) + v) * (n * (n + 1)) + v * (n + 1)) * b = ((u * n + v) * b) * ((n + 1) * (n + 1)) := by
      simp only [Int.add_mul, Int.mul_add, Int.mul_one, Int.one_mul]
      simp only [Int.mul_comm, Int.mul_left_comm, Int.mul_assoc]
      omega
    rw [l1, c]
    simp only [Int.mul_comm, Int.mul_left_comm, Int.mul_assoc]
/-- the greatest share first, where the numbers stay small -/
def okG : Nat → Int → Int → Bool
  | 0, T, _ => decide (T ≤ 0)
  | k + 1, T, B => decide (T ≤ 0) || (decide (upF B T < 4194304) && okG k (lft T B).1 (lft T B).2)
theorem okG_some : ∀ (k : Nat) (T B : Int), 1 ≤ B → T < B → okG k T B = true → ∃ xs, gws T B = some xs ∧ xs.length ≤ k ∧ ∀ x ∈ xs, Sz 22 x
  | 0, T, B, _, _, h => ⟨[], gws_nil (of_decide_eq_true h), Nat.le_refl _, fun _ m => nomatch m⟩
  | k + 1, T, B, hB, hT, h => by
    by_cases c : T ≤ 0
    · exact ⟨[], gws_nil c, Nat.zero_le _, fun _ m => nomatch m⟩
    · have c : 1 ≤ T := by omega
      have h : (decide (T ≤ 0) || (decide (upF B T < 4194304) && okG k (lft T B).1 (lft T B).2)) = true := h
      rw [decide_eq_false (by omega), Bool.false_or, Bool.and_eq_true] at h
      have s := of_decide_eq_true h.1
      have n1 := upF_pos (B := B) c hB
      have zs : Sz 22 (upF B T) := by
        show (upF B T).natAbs < 4194304
        omega
      have nb : ¬ Big (upF B T) := by
        have s : (upF B T).natAbs < 10 ^ 400 := Nat.lt_trans zs (by decide +kernel)
        exact Nat.not_lt.mpr ((slen_le (by omega) (by decide)).mpr s)
      obtain ⟨xs, ex, lx, hx⟩ := okG_some k _ _ (lft_b c hB) (lft_below c hB hT) h.2
      refine ⟨upF B T :: xs, by rw [gws_cons c nb, ex] <;> rfl, by rw [List.length_cons]; omega, fun x m => ?_⟩
      rcases List.mem_cons.mp m with rfl | m
      · exact zs
      · exact hx x m
theorem okG_small : ((List.range 25).all fun (j : Nat) => (List.range j).all fun (i : Nat) => okG 5 (i : Int) (j : Int)) = true := by decide +kernel
theorem okG_all {T B : Int} (h0 : 0 ≤ T) (h : T < B) (hB : B ≤ 24) : okG 5 T B = true := by
  have := List.all_eq_true.mp (List.all_eq_true.mp okG_small B.toNat (List.mem_range.mpr (by omega))) T.toNat (List.mem_range.mpr (by omega))
  rw [show ((T.toNat : Nat) : Int) = T by omega, show ((B.toNat : Nat) : Int) = B by omega] at this
  exact this
theorem low_lt {t b : Int} (h1 : 1 ≤ t) (h2 : t < b) : (low t b).1 < (low t b).2 := by
  refine Int.lt_of_mul_lt_mul_right (a := b) ?_ (by omega)
  rw [← low_cross, Int.mul_comm]
  exact Int.mul_lt_mul_of_pos_left h2 (low_bpos (by omega))
theorem tld_greedy {t b : Int} (h1 : 1 ≤ t) (h2 : t < b) (hb : b ≤ 24) : ∃ xs, gws (low t b).1 (low t b).2 = some xs ∧ Tld t b xs := by
  have l1 := low_bpos (t := t) (by omega : 1 ≤ b)
  have l2 := low_tnn (t := t) (by omega : 1 ≤ b) (by omega)
  have l3 := low_ble (t := t) (by omega : 1 ≤ b)
  have l4 := low_lt h1 h2
  obtain ⟨xs, ex, lx, hx⟩ := okG_some 5 _ _ l1 l4 (okG_all l2 l4 (by omega))
  obtain ⟨g1, g2⟩ := gws_grows _ _ xs l1 l4 ex
  have pos : Pos xs := fun x m => by
    have := g1 x m
    omega
  refine ⟨xs, ex, tld_of h1 h2 (ris_adj fun j x y e1 e2 => ?_) pos ?_ (by omega) ⟨22, hx, by omega⟩⟩
  · have g := grows_at g2 e1 e2
    have x2 := g1 x (List.mem_of_getElem? e1)
    have : x * 1 ≤ x * (x - 1) := Int.mul_le_mul_of_nonneg_left (by omega) (by omega)
    omega
  · refine comes_of (by omega) pos ?_
    rw [low_gws l1 l4 l2 ex pos, low_low (by omega)]
/-- the shares of the rising factors -/
theorem prods_ris : ∀ (xs : List Int) (p : Int) (q : Nat), 1 ≤ p → Sz q p → (∀ n ∈ xs, 2 ≤ n ∧ Sz 5 n) → Ris (prodsF p xs) ∧ ∀ s ∈ prodsF p xs, p < s ∧ Sz (q + 5 * xs.length) s
  | [], _, _, _, _, _ => ⟨List.Pairwise.nil, fun _ m => nomatch m⟩
  | n :: xs, p, q, hp, zp, h => by
    obtain ⟨n2, zn⟩ := h n List.mem_cons_self
    have pn : p * 2 ≤ p * n := Int.mul_le_mul_of_nonneg_left n2 (by omega)
    obtain ⟨a, c⟩ := prods_ris xs (p * n) (q + 5) (by omega) (zp.mul zn) fun m hm => h m (List.mem_cons_of_mem _ hm)
    refine ⟨List.pairwise_cons.mpr ⟨fun s hs => (c s hs).1, a⟩, fun s hs => ?_⟩
    rcases List.mem_cons.mp hs with rfl | hs
    · exact ⟨by omega, (zp.mul zn).mono (by rw [List.length_cons]; omega)⟩
    · have := c s hs
      exact ⟨by omega, this.2.mono (by rw [List.length_cons]; omega)⟩
theorem tld_rising {t b : Int} (h1 : 1 ≤ t) (h2 : t < b) (hb : b ≤ 24) : Tld t b (prodsF 1 (rfs t b)) := by
  have f := (rfs_low (by omega : 1 ≤ b) t h2).1
  have l := rfs_len (B := b) t (by omega)
  obtain ⟨a, c⟩ := prods_ris (rfs t b) 1 1 (Int.le_refl 1) Sz.one fun n hn => ⟨(f n hn).1, by have := f n hn; show n.natAbs < 32; omega⟩
  have pos : Pos (prodsF 1 (rfs t b)) := fun s hs => by
    have := (c s hs).1
    omega
  have le := prodsF_len (rfs t b) 1
  refine tld_of h1 h2 a pos (comes_of (by omega) pos (low_prods (by omega) (by omega) pos)) (by omega) ⟨116, fun s hs => (c s hs).2.mono (by omega), by omega⟩
theorem tld_all {t b : Int} (h1 : 1 ≤ t) (h2 : t < b) {m : Nat} (hm : m ≤ 4) {r : List Int} (h : r ∈ allF (low t b).1 (low t b).2 11 m) : Tld t b r := by
  have l1 := low_bpos (t := t) (by omega : 1 ≤ b)
  have l2 := low_tnn (t := t) (by omega : 1 ≤ b) (by omega)
  obtain ⟨k, hk, h⟩ := List.mem_flatMap.mp h
  have hk := List.mem_range.mp hk
  obtain ⟨a, c⟩ := wy_mem (Int.le_refl 1) l2 l1 h
  obtain ⟨x1, x2, x3⟩ := rw_mem a
  refine tld_of h1 h2 x3 (fun x hx => (x2 x hx).1) ((comes_low (by omega)).mp c) (by omega) ⟨4, fun x hx => by have := x2 x hx; show x.natAbs < 16; omega, by omega⟩
theorem tld_goes {t b m : Int} {mo : Int} {xs : List Int} (h1 : 1 ≤ t) (h2 : t < b) (e : goF (low t b).1 (low t b).2 mo = some (m, xs)) : Tld t b xs := by
  have l1 := low_bpos (t := t) (by omega : 1 ≤ b)
  have l2 := low_tnn (t := t) (by omega : 1 ≤ b) (by omega)
  have g := goF_ok l2 l1 e
  have pos : Pos xs := fun x hx => (g.each x hx).1
  have := g.len
  refine tld_of h1 h2 g.ris pos (comes_of (by omega) pos (g.sum.trans (low_low (by omega)))) g.len ⟨10, fun x hx => by have := g.each x hx; show x.natAbs < 1024; omega, by omega⟩
/-- a short row of small numbers is among all ways -/
theorem tld_in {t b : Int} {ys : List Int} {n : Int} (h1 : 1 ≤ t) (h2 : t < b) (h : Tld t b (ys ++ [n])) (hn : n < 12) (hl : (ys ++ [n]).length < 5) : ys ++ [n] ∈ allF (low t b).1 (low t b).2 11 4 := by
  have l1 := low_bpos (t := t) (by omega : 1 ≤ b)
  have l2 := low_tnn (t := t) (by omega : 1 ≤ b) (by omega)
  rw [all_rows l2 l1]
  refine List.mem_filter.mpr ⟨List.mem_flatMap.mpr ⟨ys.length, List.mem_range.mpr ?_, ?_⟩, decide_eq_true ((comes_low (by omega)).mpr h.comes)⟩
  · rw [List.length_append] at hl
    simp only [List.length_cons, List.length_nil] at hl
    omega
  · rw [lw_all]
    have e := rw_in (r := ys ++ [n]) (l := 1) (g := 11) (fun x hx => ⟨h.pos x hx, ?_⟩) h.ris
    · rw [List.length_append] at e
      exact e
    · rcases List.mem_append.mp hx with m | m
      · have := (List.pairwise_append.mp h.ris).2.2 x m n List.mem_cons_self
        omega
      · have := List.mem_singleton.mp m
        omega
theorem first_least {T B g : Int} {m : Nat} (hT : 0 ≤ T) (hB : 1 ≤ B) {r0 r : List Int} {rest : List (List Int)} (e : allF T B g m = r0 :: rest) (h : r ∈ allF T B g m) : r0.length ≤ r.length := by
  have p : (allF T B g m).Pairwise Ahead := by
    rw [all_rows hT hB]
    exact (ahead_rows g m).filter _
  rw [e] at p h
  rcases List.mem_cons.mp h with rfl | h
  · exact Nat.le_refl _
  · have := (List.pairwise_cons.mp p).1 r h
    unfold Ahead at this
    omega

structure ErrA where
  ShareError : Addr
  NoFraction : Addr
  NotBelow : Addr
  TooGreat : Addr
  BadText : Addr
  NotRising : Addr
structure ErrC (K : PySem.W.Frag) (mg : Str → Option Value) (C S : Addr) (x : Str) : Prop where
  g : mg x = some (.ref C)
  x : PySem.W.excIn K C veT "ValueError.__new__" = true
  k : PySem.W.keepIn K (.ref C) = true
  b : PySem.W.subIn K (.ref C) (.type "BaseException") = some true
  t : PySem.W.typeIn K (.ref C) = some (.type "type")
structure ErrOk (K : PySem.W.Frag) (mg : Str → Option Value) (e : ErrA) : Prop where
  ShareError : ErrC K mg e.ShareError e.ShareError "ShareError"
  NoFraction : ErrC K mg e.NoFraction e.ShareError "NoFraction"
  NotBelow : ErrC K mg e.NotBelow e.ShareError "NotBelow"
  TooGreat : ErrC K mg e.TooGreat e.ShareError "TooGreat"
  dig : PySem.W.nsIn K cStatics "sys.int_max_str_digits" = some none

section
variable {P : Program} {w : World} {K : PySem.W.Frag} {mg : Str → Option Value} {base : Heap} {e : ErrA}

abbrev s_see : Stmt := topS 6
abbrev N_see : List Str := ["fraction"]
theorem sc_see : FnScope N_see ["fraction"] (defScope s_see) := ⟨rfl, rfl, rfl, by decide +kernel, rfl, by decide +kernel, by decide +kernel⟩
def sp_see (K : PySem.W.Frag) (e : ErrA) : Sp := fun vs H Q E => ∃ (a : Addr) (t b : Int), vs = [.ref a] ∧ SqT K H a [.int t, .int b] ∧ ((t < 0 ∨ b < 1) → E (.ref e.NoFraction) none H) ∧ (¬ (t < 0 ∨ b < 1) → Q .non H)
theorem ok_see (D : Stands K mg "see" s_see) (B : Bi mg) (Er : ErrOk K mg e) : Keeps P w K mg base 1 "see" ["fraction"] (sp_see K e) := by
  obtain ⟨f, fd, F, mF⟩ := D
  have h_NoFraction := Er.NoFraction
  refine ⟨f, fd, ?_, F.binds (ps := ["fraction"]) (fun _ _ _ _ _ _ us hl => match us, hl with | [_], _ => rfl), mF, F.kp⟩
  refine F.okX sc_see (fun vs H Q E h => ?_) (fun cdv A outer s H vs Q E hr h => ?_)
  · obtain ⟨a, t, b, rfl, hS, kE, kQ⟩ := h
    rfl
  · obtain ⟨a, t, b, rfl, hS, kE, kQ⟩ := h
    refine ⟨_, (pss_one (ps_if (PW.pt (pw_or (pt_cmpR op_lt (pe_ix ix_tup (pv 0) pe_int (fun _ _ => rfl)) pe_int (nomark _)) (pw_or1 (pt_cmpR op_lt (pe_ix ix_tup (pv 0) pe_int (fun _ _ => rfl)) pe_int (nomark _))))) (pss_one (ps_raise rfl (takes_of rfl rfl rfl rfl) (pmk_own PySem.F.excBase_ValueError h_NoFraction.x h_NoFraction.g h_NoFraction.k (raises_own h_NoFraction.b h_NoFraction.t) rfl))) pss_nil)), ?_⟩
    refine ⟨_, rfl, a, _, 0, _, rfl, rfl, hS, atI_nat (j := 0) rfl, _, _, rfl, rfl, _, rfl, ite2 (fun c => ?_) (fun c => ?_)⟩
    · refine iteT ?_
      exact kE (.inl (of_decide_eq_true c))
    · have c0 : ¬ t < 0 := fun z => c (decide_eq_true z)
      refine ⟨_, rfl, a, _, 1, _, rfl, rfl, hS, atI_nat (j := 1) rfl, _, _, rfl, rfl, _, rfl, ite2 (fun c => ?_) (fun c => ?_)⟩
      · exact kE (.inr (of_decide_eq_true c))
      · exact kQ fun z => z.elim c0 fun z => c (decide_eq_true z)

abbrev s_common : Stmt := topS 7
abbrev N_common : List Str := ["one", "other", "rest"]
theorem sc_common : FnScope N_common ["one", "other"] (defScope s_common) := ⟨rfl, rfl, rfl, by decide +kernel, rfl, by decide +kernel, by decide +kernel⟩
def sp_common (K : PySem.W.Frag) (_ : ErrA) : Sp := fun vs H Q _ => ∃ x y : Int, vs = [.int x, .int y] ∧ 0 ≤ x ∧ 0 ≤ y ∧ Q (.int (gc x y)) H
theorem ok_common (D : Stands K mg "common" s_common) (B : Bi mg) (Er : ErrOk K mg e) : Keeps P w K mg base 1 "common" ["one", "other"] (sp_common K e) := by
  obtain ⟨f, fd, F, mF⟩ := D
  refine ⟨f, fd, ?_, F.binds (ps := ["one", "other"]) (fun _ _ _ _ _ _ us hl => match us, hl with | [_, _], _ => rfl), mF, F.kp⟩
  refine toX (F.ok sc_common (fun vs H Q E h => ?_) (fun cdv A outer s H vs Q E hr h => ?_))
  · obtain ⟨x, y, rfl, hx, hy, q⟩ := h
    rfl
  · obtain ⟨x, y, rfl, hx, hy, q⟩ := h
    refine ⟨_, (pss_cons (ps_while PassesOwn.never (pt_cmpR op_gt (pv 1) pe_int (nomark _)) (pss_cons (ps_set (i := 2) sc_common.nd rfl (Or.inl rfl) (pe_op op_mod (pv 0) (pv 1)))
      (pss_cons (ps_set (i := 0) sc_common.nd rfl (Or.inl rfl) (pv 1))
      (pss_one (ps_set (i := 1) sc_common.nd rfl (Or.inl rfl) (pv 2))))))
      (pss_one (ps_ret (pv 0)))), ?_⟩
    refine while_by (fun σ H' => H' = H ∧ ∃ (u v : Int) (r : Option V), σ = [some (.int u), some (.int v), r] ∧ 0 ≤ u ∧ 0 ≤ v ∧ gc u v = gc x y)
      (fun σ _ => match σ with | [_, some (.int v), _] => v.toNat | _ => 0) ⟨rfl, x, y, none, rfl, hx, hy, rfl⟩ ?_ ?_
    · rintro σ H' ⟨rfl, u, v, r, rfl, hu, hv, hg⟩
      refine ⟨_, rfl, _, _, rfl, rfl, _, rfl, ite2 (fun c => ?_) (fun c => ?_)⟩
      · have c := of_decide_eq_true c
        have m1 := Int.emod_nonneg u (b := v) (by omega)
        have m2 := Int.emod_lt_of_pos u c
        refine ⟨_, rfl, _, rfl, _, _, rfl, rfl, c, _, rfl, _, rfl, ⟨rfl, v, u % v, _, rfl, hv, m1, gc_step.trans hg⟩, ?_⟩
        show (u % v).toNat < v.toNat
        omega
      · have c : ¬ 0 < v := fun z => c (decide_eq_true z)
        have v0 : v = 0 := by omega
        subst v0
        rw [gc_zero hu] at hg
        refine ⟨_, rfl, ?_⟩
        rw [hg]
        exact q
    · rintro σ H' Q1 Q2 hq ⟨v, e1, i, j, e2, e3, k, e4, e5⟩
      exact ⟨v, e1, i, j, e2, e3, k, e4, hq _ _ e5⟩

abbrev s_lowest : Stmt := topS 8
abbrev N_lowest : List Str := ["fraction", "far"]
theorem sc_lowest : FnScope N_lowest ["fraction"] (defScope s_lowest) := ⟨rfl, rfl, rfl, by decide +kernel, rfl, by decide +kernel, by decide +kernel⟩
def sp_lowest (K : PySem.W.Frag) (e : ErrA) : Sp := fun vs H Q E => ∃ (a : Addr) (t b : Int), vs = [.ref a] ∧ SqT K H a [.int t, .int b] ∧ Sz 9000 b ∧ ((t < 0 ∨ b < 1) → E (.ref e.NoFraction) none H) ∧
  (¬ (t < 0 ∨ b < 1) → ∀ H' p, Same H H' → H p = none → H' p = some (.tup [.int (low t b).1, .int (low t b).2]) → Q (.ref p) H')
theorem ok_lowest (D : Stands K mg "lowest" s_lowest) (B : Bi mg) (Er : ErrOk K mg e)
    (h_see : Keeps P w K mg base 1 "see" ["fraction"] (sp_see K e))
    (h_common : Keeps P w K mg base 1 "common" ["one", "other"] (sp_common K e)) : Keeps P w K mg base 2 "lowest" ["fraction"] (sp_lowest K e) := by
  obtain ⟨f, fd, F, mF⟩ := D
  obtain ⟨f_see, fd_see, G_see, b_see, m_see, k_see⟩ := h_see
  obtain ⟨f_common, fd_common, G_common, b_common, m_common, k_common⟩ := h_common
  refine ⟨f, fd, ?_, F.binds (ps := ["fraction"]) (fun _ _ _ _ _ _ us hl => match us, hl with | [_], _ => rfl), mF, F.kp⟩
  refine F.okX sc_lowest (fun vs H Q E h => ?_) (fun cdv A outer s H vs Q E hr h => ?_)
  · obtain ⟨a, t, b, rfl, hS, hz, kE, kQ⟩ := h
    rfl
  · obtain ⟨a, t, b, rfl, hS, hz, kE, kQ⟩ := h
    refine ⟨_, (pss_cons (ps_expr (pe_call G_see (hr.mono (by decide)) (by rfl) m_see k_see b_see .nil (passes_call (E := E) (takes_of rfl rfl rfl rfl) (fun _ _ _ _ h => h)) (pa_cons (pv 0) pa_nil)))
      (pss_cons (ps_set (i := 1) sc_lowest.nd rfl (Or.inl rfl) (pe_call G_common (hr.mono (by decide)) (by rfl) m_common k_common b_common .nil passL (pa_cons (pe_ix ix_tup (pv 0) pe_int (fun _ _ => rfl)) (pa_cons (pe_ix ix_tup (pv 0) pe_int (fun _ _ => rfl)) pa_nil))))
      (pss_one (ps_ret (pe_tup (pa_cons (pe_op op_fdivP (pe_ix ix_tup (pv 0) pe_int (fun _ _ => rfl)) (pv 1)) (pa_cons (pe_op op_fdivP (pe_ix ix_tup (pv 0) pe_int (fun _ _ => rfl)) (pv 1)) pa_nil))))))), ?_⟩
    refine ⟨_, rfl, a, t, b, rfl, hS, fun c => kE c, fun c => ?_⟩
    have hb : 1 ≤ b := by omega
    have ht : 0 ≤ t := by omega
    have hf := gc_pos (t := t) hb
    have hfz : Sz 9000 (gc t b) := hz.le (by omega) (gc_le hb)
    refine ⟨_, rfl, a, _, 0, _, rfl, rfl, hS, atI_nat (j := 0) rfl, _, rfl, a, _, 1, _, rfl, rfl, hS, atI_nat (j := 1) rfl, t, b, rfl, ht, by omega, ?_⟩
    refine ⟨_, rfl, a, _, 0, _, rfl, rfl, hS, atI_nat (j := 0) rfl, _, rfl, _, _, rfl, rfl, hfz.cd hf, ?_⟩
    refine ⟨_, rfl, a, _, 1, _, rfl, rfl, hS, atI_nat (j := 1) rfl, _, rfl, _, _, rfl, rfl, hfz.cd hf, by show 2 ≤ sizeLine; decide, fun p hp => ?_⟩
    exact kQ c _ p (same_new hp) hp upd_same

abbrev s_added : Stmt := topS 9
abbrev N_added : List Str := ["one", "other"]
theorem sc_added : FnScope N_added ["one", "other"] (defScope s_added) := ⟨rfl, rfl, rfl, by decide +kernel, rfl, by decide +kernel, by decide +kernel⟩
def sp_added (K : PySem.W.Frag) (e : ErrA) : Sp := fun vs H Q E => ∃ (a c : Addr) (t b u d : Int), vs = [.ref a, .ref c] ∧ SqT K H a [.int t, .int b] ∧ SqT K H c [.int u, .int d] ∧ Sz 4400 t ∧ Sz 4400 b ∧ Sz 4400 u ∧ Sz 4400 d ∧
  ((t < 0 ∨ b < 1 ∨ u < 0 ∨ d < 1) → E (.ref e.NoFraction) none H) ∧
  (0 ≤ t → 1 ≤ b → 0 ≤ u → 1 ≤ d → ∀ H' p, Same H H' → H p = none → H' p = some (.tup [.int (low (t * d + u * b) (b * d)).1, .int (low (t * d + u * b) (b * d)).2]) → Q (.ref p) H')
theorem ok_added (D : Stands K mg "added" s_added) (B : Bi mg) (Er : ErrOk K mg e)
    (h_see : Keeps P w K mg base 1 "see" ["fraction"] (sp_see K e))
    (h_lowest : Keeps P w K mg base 2 "lowest" ["fraction"] (sp_lowest K e)) : Keeps P w K mg base 3 "added" ["one", "other"] (sp_added K e) := by
  obtain ⟨f, fd, F, mF⟩ := D
  obtain ⟨f_see, fd_see, G_see, b_see, m_see, k_see⟩ := h_see
  obtain ⟨f_lowest, fd_lowest, G_lowest, b_lowest, m_lowest, k_lowest⟩ := h_lowest
  refine ⟨f, fd, ?_, F.binds (ps := ["one", "other"]) (fun _ _ _ _ _ _ us hl => match us, hl with | [_, _], _ => rfl), mF, F.kp⟩
  refine F.okX sc_added (fun vs H Q E h => ?_) (fun cdv A outer s H vs Q E hr h => ?_)
  · obtain ⟨a, c, t, b, u, d, rfl, hA, hC, z1, z2, z3, z4, kE, kQ⟩ := h
    rfl
  · obtain ⟨a, c, t, b, u, d, rfl, hA, hC, z1, z2, z3, z4, kE, kQ⟩ := h
    refine ⟨_, (pss_cons (ps_expr (pe_call G_see (hr.mono (by decide)) (by rfl) m_see k_see b_see .nil (passes_call (E := E) (takes_of rfl rfl rfl rfl) (fun _ _ _ _ h => h)) (pa_cons (pv 0) pa_nil)))
      (pss_cons (ps_expr (pe_call G_see (hr.mono (by decide)) (by rfl) m_see k_see b_see .nil (passes_call (E := E) (takes_of rfl rfl rfl rfl) (fun _ _ _ _ h => h)) (pa_cons (pv 1) pa_nil)))
      (pss_one (ps_ret (pe_call G_lowest (hr.mono (by decide)) (by rfl) m_lowest k_lowest b_lowest .nil (passes_call (E := E) (takes_of rfl rfl rfl rfl) (fun _ _ _ _ h => h)) (pa_cons (pe_tup (pa_cons (pe_op op_add (pe_op op_mulW (pe_ix ix_tup (pv 0) pe_int (fun _ _ => rfl)) (pe_ix ix_tup (pv 1) pe_int (fun _ _ => rfl))) (pe_op op_mulW (pe_ix ix_tup (pv 1) pe_int (fun _ _ => rfl)) (pe_ix ix_tup (pv 0) pe_int (fun _ _ => rfl)))) (pa_cons (pe_op op_mulW (pe_ix ix_tup (pv 0) pe_int (fun _ _ => rfl)) (pe_ix ix_tup (pv 1) pe_int (fun _ _ => rfl))) pa_nil))) pa_nil)))))), ?_⟩
    refine ⟨_, rfl, a, t, b, rfl, hA, fun c => kE (by omega), fun c1 => ?_⟩
    refine ⟨_, rfl, c, u, d, rfl, hC, fun c => kE (by omega), fun c2 => ?_⟩
    have bd : 1 ≤ b * d := Int.mul_pos (by omega) (by omega)
    have td : 0 ≤ t * d + u * b := Int.add_nonneg (Int.mul_nonneg (by omega) (by omega)) (Int.mul_nonneg (by omega) (by omega))
    refine ⟨_, rfl, a, _, 0, _, rfl, rfl, hA, atI_nat (j := 0) rfl, _, rfl, c, _, 1, _, rfl, rfl, hC, atI_nat (j := 1) rfl, _, _, rfl, rfl, z1.cm z4, ?_⟩
    refine ⟨_, rfl, c, _, 0, _, rfl, rfl, hC, atI_nat (j := 0) rfl, _, rfl, a, _, 1, _, rfl, rfl, hA, atI_nat (j := 1) rfl, _, _, rfl, rfl, z3.cm z2, _, _, rfl, rfl, ?_⟩
    refine ⟨_, rfl, a, _, 1, _, rfl, rfl, hA, atI_nat (j := 1) rfl, _, rfl, c, _, 1, _, rfl, rfl, hC, atI_nat (j := 1) rfl, _, _, rfl, rfl, z2.cm z4, by show 2 ≤ sizeLine; decide, fun p hp => ?_⟩
    refine ⟨p, _, _, rfl, SqT.of upd_same, (z2.mul z4).mono, fun c => absurd c (by omega), fun _ H' r s hr e => ?_⟩
    exact kQ (by omega) (by omega) (by omega) (by omega) H' r ((same_new hp).trans s) ((same_new hp).free hr) e

abbrev s_less : Stmt := topS 10
abbrev N_less : List Str := ["one", "other"]
theorem sc_less : FnScope N_less ["one", "other"] (defScope s_less) := ⟨rfl, rfl, rfl, by decide +kernel, rfl, by decide +kernel, by decide +kernel⟩
def sp_less (K : PySem.W.Frag) (e : ErrA) : Sp := fun vs H Q E => ∃ (a c : Addr) (t b u d : Int), vs = [.ref a, .ref c] ∧ SqT K H a [.int t, .int b] ∧ SqT K H c [.int u, .int d] ∧ Sz 4400 t ∧ Sz 4400 b ∧ Sz 4400 u ∧ Sz 4400 d ∧
  ((t < 0 ∨ b < 1 ∨ u < 0 ∨ d < 1) → E (.ref e.NoFraction) none H) ∧ (0 ≤ t → 1 ≤ b → 0 ≤ u → 1 ≤ d → Q (.bl (decide (t * d < u * b))) H)
theorem ok_less (D : Stands K mg "less" s_less) (B : Bi mg) (Er : ErrOk K mg e)
    (h_see : Keeps P w K mg base 1 "see" ["fraction"] (sp_see K e)) : Keeps P w K mg base 2 "less" ["one", "other"] (sp_less K e) := by
  obtain ⟨f, fd, F, mF⟩ := D
  obtain ⟨f_see, fd_see, G_see, b_see, m_see, k_see⟩ := h_see
  refine ⟨f, fd, ?_, F.binds (ps := ["one", "other"]) (fun _ _ _ _ _ _ us hl => match us, hl with | [_, _], _ => rfl), mF, F.kp⟩
  refine F.okX sc_less (fun vs H Q E h => ?_) (fun cdv A outer s H vs Q E hr h => ?_)
  · obtain ⟨a, c, t, b, u, d, rfl, hA, hC, z1, z2, z3, z4, kE, kQ⟩ := h
    rfl
  · obtain ⟨a, c, t, b, u, d, rfl, hA, hC, z1, z2, z3, z4, kE, kQ⟩ := h
    refine ⟨_, (pss_cons (ps_expr (pe_call G_see (hr.mono (by decide)) (by rfl) m_see k_see b_see .nil (passes_call (E := E) (takes_of rfl rfl rfl rfl) (fun _ _ _ _ h => h)) (pa_cons (pv 0) pa_nil)))
      (pss_cons (ps_expr (pe_call G_see (hr.mono (by decide)) (by rfl) m_see k_see b_see .nil (passes_call (E := E) (takes_of rfl rfl rfl rfl) (fun _ _ _ _ h => h)) (pa_cons (pv 1) pa_nil)))
      (pss_one (ps_ret (pe_cmpR op_lt (pe_op op_mulW (pe_ix ix_tup (pv 0) pe_int (fun _ _ => rfl)) (pe_ix ix_tup (pv 1) pe_int (fun _ _ => rfl))) (pe_op op_mulW (pe_ix ix_tup (pv 1) pe_int (fun _ _ => rfl)) (pe_ix ix_tup (pv 0) pe_int (fun _ _ => rfl))) (nomark _)))))), ?_⟩
    refine ⟨_, rfl, a, t, b, rfl, hA, fun c => kE (by omega), fun c1 => ?_⟩
    refine ⟨_, rfl, c, u, d, rfl, hC, fun c => kE (by omega), fun c2 => ?_⟩
    refine ⟨_, rfl, a, _, 0, _, rfl, rfl, hA, atI_nat (j := 0) rfl, _, rfl, c, _, 1, _, rfl, rfl, hC, atI_nat (j := 1) rfl, _, _, rfl, rfl, z1.cm z4, ?_⟩
    refine ⟨_, rfl, c, _, 0, _, rfl, rfl, hC, atI_nat (j := 0) rfl, _, rfl, a, _, 1, _, rfl, rfl, hA, atI_nat (j := 1) rfl, _, _, rfl, rfl, z3.cm z2, _, _, rfl, rfl, ?_⟩
    exact kQ (by omega) (by omega) (by omega) (by omega)

abbrev s_taken : Stmt := topS 11
abbrev N_taken : List Str := ["one", "other"]
theorem sc_taken : FnScope N_taken ["one", "other"] (defScope s_taken) := ⟨rfl, rfl, rfl, by decide +kernel, rfl, by decide +kernel, by decide +kernel⟩
def sp_taken (K : PySem.W.Frag) (e : ErrA) : Sp := fun vs H Q E => ∃ (a c : Addr) (t b u d : Int), vs = [.ref a, .ref c] ∧ SqT K H a [.int t, .int b] ∧ SqT K H c [.int u, .int d] ∧ Sz 4400 t ∧ Sz 4400 b ∧ Sz 4400 u ∧ Sz 4400 d ∧
  ((t < 0 ∨ b < 1 ∨ u < 0 ∨ d < 1) → E (.ref e.NoFraction) none H) ∧ (0 ≤ t → 1 ≤ b → 0 ≤ u → 1 ≤ d → t * d < u * b → E (.ref e.NotBelow) none H) ∧
  (0 ≤ t → 1 ≤ b → 0 ≤ u → 1 ≤ d → u * b ≤ t * d → ∀ H' p, Same H H' → H p = none → H' p = some (.tup [.int (low (t * d - u * b) (b * d)).1, .int (low (t * d - u * b) (b * d)).2]) → Q (.ref p) H')
theorem ok_taken (D : Stands K mg "taken" s_taken) (B : Bi mg) (Er : ErrOk K mg e)
    (h_less : Keeps P w K mg base 2 "less" ["one", "other"] (sp_less K e))
    (h_lowest : Keeps P w K mg base 2 "lowest" ["fraction"] (sp_lowest K e)) : Keeps P w K mg base 3 "taken" ["one", "other"] (sp_taken K e) := by
  obtain ⟨f, fd, F, mF⟩ := D
  obtain ⟨f_less, fd_less, G_less, b_less, m_less, k_less⟩ := h_less
  obtain ⟨f_lowest, fd_lowest, G_lowest, b_lowest, m_lowest, k_lowest⟩ := h_lowest
  have h_NotBelow := Er.NotBelow
  refine ⟨f, fd, ?_, F.binds (ps := ["one", "other"]) (fun _ _ _ _ _ _ us hl => match us, hl with | [_, _], _ => rfl), mF, F.kp⟩
  refine F.okX sc_taken (fun vs H Q E h => ?_) (fun cdv A outer s H vs Q E hr h => ?_)
  · obtain ⟨a, c, t, b, u, d, rfl, hA, hC, z1, z2, z3, z4, kE, kB, kQ⟩ := h
    rfl
  · obtain ⟨a, c, t, b, u, d, rfl, hA, hC, z1, z2, z3, z4, kE, kB, kQ⟩ := h
    refine ⟨_, (pss_cons (ps_if (pt_val (pe_call G_less (hr.mono (by decide)) (by rfl) m_less k_less b_less .nil (passes_call (E := E) (takes_of rfl rfl rfl rfl) (fun _ _ _ _ h => h)) (pa_cons (pv 0) (pa_cons (pv 1) pa_nil)))) (pss_one (ps_raise rfl (takes_of rfl rfl rfl rfl) (pmk_own PySem.F.excBase_ValueError h_NotBelow.x h_NotBelow.g h_NotBelow.k (raises_own h_NotBelow.b h_NotBelow.t) rfl))) pss_nil)
      (pss_one (ps_ret (pe_call G_lowest (hr.mono (by decide)) (by rfl) m_lowest k_lowest b_lowest .nil (passes_call (E := E) (takes_of rfl rfl rfl rfl) (fun _ _ _ _ h => h)) (pa_cons (pe_tup (pa_cons (pe_op op_sub (pe_op op_mulW (pe_ix ix_tup (pv 0) pe_int (fun _ _ => rfl)) (pe_ix ix_tup (pv 1) pe_int (fun _ _ => rfl))) (pe_op op_mulW (pe_ix ix_tup (pv 1) pe_int (fun _ _ => rfl)) (pe_ix ix_tup (pv 0) pe_int (fun _ _ => rfl)))) (pa_cons (pe_op op_mulW (pe_ix ix_tup (pv 0) pe_int (fun _ _ => rfl)) (pe_ix ix_tup (pv 1) pe_int (fun _ _ => rfl))) pa_nil))) pa_nil))))), ?_⟩
    refine ⟨_, rfl, _, rfl, a, c, t, b, u, d, rfl, hA, hC, z1, z2, z3, z4, kE, fun h1 h2 h3 h4 => ⟨_, rfl, ite2 (fun c => ?_) (fun c => ?_)⟩⟩
    · exact kB h1 h2 h3 h4 (of_decide_eq_true c)
    · have c0 : u * b ≤ t * d := by
        have : ¬ t * d < u * b := fun z => c (decide_eq_true z)
        omega
      have bd : 1 ≤ b * d := Int.mul_pos (by omega) (by omega)
      refine ⟨_, rfl, a, _, 0, _, rfl, rfl, hA, atI_nat (j := 0) rfl, _, rfl, _, _, 1, _, rfl, rfl, hC, atI_nat (j := 1) rfl, _, _, rfl, rfl, z1.cm z4, ?_⟩
      refine ⟨_, rfl, _, _, 0, _, rfl, rfl, hC, atI_nat (j := 0) rfl, _, rfl, a, _, 1, _, rfl, rfl, hA, atI_nat (j := 1) rfl, _, _, rfl, rfl, z3.cm z2, _, _, rfl, rfl, ?_⟩
      refine ⟨_, rfl, a, _, 1, _, rfl, rfl, hA, atI_nat (j := 1) rfl, _, rfl, _, _, 1, _, rfl, rfl, hC, atI_nat (j := 1) rfl, _, _, rfl, rfl, z2.cm z4, by show 2 ≤ sizeLine; decide, fun p hp => ?_⟩
      refine ⟨p, _, _, rfl, SqT.of upd_same, (z2.mul z4).mono, fun c => absurd c (by omega), fun _ H' r s hr e => ?_⟩
      exact kQ h1 h2 h3 h4 c0 H' r ((same_new hp).trans s) ((same_new hp).free hr) e

abbrev s_sum_of : Stmt := topS 12
abbrev N_sum_of : List Str := ["shares", "total", "share"]
theorem sc_sum_of : FnScope N_sum_of ["shares"] (defScope s_sum_of) := ⟨rfl, rfl, rfl, by decide +kernel, rfl, by decide +kernel, by decide +kernel⟩
def sp_sum_of (K : PySem.W.Frag) (_ : ErrA) : Sp := fun vs H Q _ => ∃ (a : Addr) (xs : List Int), vs = [.ref a] ∧ SqL K H a (xs.map V.int) ∧ SumOk xs ∧
  ∀ H' p, Same H H' → H p = none → H' p = some (.tup [.int (lowS xs).1, .int (lowS xs).2]) → Q (.ref p) H'
theorem ok_sum_of (D : Stands K mg "sum_of" s_sum_of) (B : Bi mg) (Er : ErrOk K mg e)
    (h_added : Keeps P w K mg base 3 "added" ["one", "other"] (sp_added K e)) : Keeps P w K mg base 4 "sum_of" ["shares"] (sp_sum_of K e) := by
  obtain ⟨f, fd, F, mF⟩ := D
  obtain ⟨f_added, fd_added, G_added, b_added, m_added, k_added⟩ := h_added
  refine ⟨f, fd, ?_, F.binds (ps := ["shares"]) (fun _ _ _ _ _ _ us hl => match us, hl with | [_], _ => rfl), mF, F.kp⟩
  refine toX (F.ok sc_sum_of (fun vs H Q E h => ?_) (fun cdv A outer s H vs Q E hr h => ?_))
  · obtain ⟨a, xs, rfl, hS, ok, q⟩ := h
    rfl
  · obtain ⟨a, xs, rfl, hS, ok, q⟩ := h
    refine ⟨_, (pss_cons (ps_set (i := 1) sc_sum_of.nd rfl (Or.inl rfl) (pe_tup (pa_cons pe_int (pa_cons pe_int pa_nil))))
      (pss_cons (ps_for PassesOwn.never rfl (pi_list (pv 0)) (pg_name (i := 2) sc_sum_of.nd rfl (Or.inl rfl)) (pss_one (ps_set (i := 1) sc_sum_of.nd rfl (Or.inl rfl) (pe_call G_added (hr.mono (by decide)) (by rfl) m_added k_added b_added .nil passL (pa_cons (pv 1) (pa_cons (pe_tup (pa_cons pe_int (pa_cons (pv 2) pa_nil))) pa_nil))))))
      (pss_one (ps_ret (pv 1))))), ?_⟩
    refine ⟨by show 2 ≤ sizeLine; decide, fun z hz => ?_⟩
    refine ⟨_, rfl, a, rfl, ⟨_, (same_new hz).seq hS⟩, for_list (K := K) (a := a) (xs := xs.map V.int) (fun i σ H' => Same H H' ∧ ∃ (p : Addr) (v : Option V), σ = [some (.ref a), some (.ref p), v] ∧ H p = none ∧
      H' p = some (.tup [.int (lowS (xs.take i)).1, .int (lowS (xs.take i)).2])) ⟨same_new hz, z, none, rfl, hz, by rw [upd_same, List.take_zero, lowS_nil]⟩ (fun i σ H' _ h => h.1.seq hS) ?_ ?_⟩
    · rintro i y σ H' hy ⟨sm, p, v, rfl, hp, ep⟩
      obtain ⟨s, es, rfl⟩ := of_get_map hy
      have k := ok.take i
      obtain ⟨s1, s2⟩ := ok.item es
      obtain ⟨a1, a2, a3⟩ := sumS_pos _ k.pos
      have l1 := low_tnn (t := (sumS (xs.take i)).1) a2 a1
      have l2 := low_bpos (t := (sumS (xs.take i)).1) a2
      have l3 := low_tle (b := (sumS (xs.take i)).2) a1
      have l4 := low_ble (t := (sumS (xs.take i)).1) a2
      refine ⟨_, rfl, _, rfl, by show 2 ≤ sizeLine; decide, fun r hr => ?_⟩
      have s3 := same_new (o := .tup [.int 1, .int s]) hr
      refine ⟨p, r, _, _, _, _, rfl, SqT.of (s3 _ _ ep), SqT.of upd_same, (k.top.le l1 l3).mono, (k.sz.le (by omega) l4).mono, Sz.one, s2.mono, fun c => ?_, fun _ _ _ _ H2 n sn hn en => ?_⟩
      · have : lowS (xs.take i) = low (sumS (xs.take i)).1 (sumS (xs.take i)).2 := rfl
        rw [this] at c
        omega
      · rw [lowS_snoc k.pos s1, ← take_snoc es] at en
        exact ⟨(sm.trans s3).trans sn, n, _, rfl, (sm.trans s3).free hn, en⟩
    · rintro σ H' ⟨sm, p, v, rfl, hp, ep⟩
      rw [List.length_map, List.take_length] at ep
      exact ⟨_, rfl, q H' p sm hp ep⟩

abbrev s_is_way : Stmt := topS 13
abbrev N_is_way : List Str := ["fraction", "shares", "k"]
theorem sc_is_way : FnScope N_is_way ["fraction", "shares"] (defScope s_is_way) := ⟨rfl, rfl, rfl, by decide +kernel, rfl, by decide +kernel, by decide +kernel⟩
def sp_is_way (K : PySem.W.Frag) (e : ErrA) : Sp := fun vs H Q E => ∃ (a c : Addr) (t b : Int) (xs : List Int), vs = [.ref a, .ref c] ∧ SqT K H a [.int t, .int b] ∧ SqL K H c (xs.map V.int) ∧ SumOk xs ∧ Sz 9000 b ∧
  ((t < 0 ∨ b < 1) → E (.ref e.NoFraction) none H) ∧ (0 ≤ t → 1 ≤ b → ∀ H', Same H H' → Q (.bl (decide (Ris xs ∧ lowS xs = low t b))) H')
theorem ok_is_way (D : Stands K mg "is_way" s_is_way) (B : Bi mg) (Er : ErrOk K mg e)
    (h_see : Keeps P w K mg base 1 "see" ["fraction"] (sp_see K e))
    (h_sum_of : Keeps P w K mg base 4 "sum_of" ["shares"] (sp_sum_of K e))
    (h_lowest : Keeps P w K mg base 2 "lowest" ["fraction"] (sp_lowest K e)) : Keeps P w K mg base 5 "is_way" ["fraction", "shares"] (sp_is_way K e) := by
  obtain ⟨f, fd, F, mF⟩ := D
  obtain ⟨f_see, fd_see, G_see, b_see, m_see, k_see⟩ := h_see
  obtain ⟨f_sum_of, fd_sum_of, G_sum_of, b_sum_of, m_sum_of, k_sum_of⟩ := h_sum_of
  obtain ⟨f_lowest, fd_lowest, G_lowest, b_lowest, m_lowest, k_lowest⟩ := h_lowest
  refine ⟨f, fd, ?_, F.binds (ps := ["fraction", "shares"]) (fun _ _ _ _ _ _ us hl => match us, hl with | [_, _], _ => rfl), mF, F.kp⟩
  refine F.okX sc_is_way (fun vs H Q E h => ?_) (fun cdv A outer s H vs Q E hr h => ?_)
  · obtain ⟨a, c, t, b, xs, rfl, hA, hC, ok, hz, kE, kQ⟩ := h
    rfl
  · obtain ⟨a, c, t, b, xs, rfl, hA, hC, ok, hz, kE, kQ⟩ := h
    refine ⟨_, (pss_cons (ps_expr (pe_call G_see (hr.mono (by decide)) (by rfl) m_see k_see b_see .nil (passes_call (E := E) (takes_of rfl rfl rfl rfl) (fun _ _ _ _ h => h)) (pa_cons (pv 0) pa_nil)))
      (pss_cons (ps_for (passes_of rfl) rfl (pi_range2 (by rfl) B.range (pa_cons pe_int (pa_cons (pe_callB call_len_seq (by rfl) B.len (by decide +kernel) (pa_cons (pv 1) pa_nil)) pa_nil))) (pg_name (i := 2) sc_is_way.nd rfl (Or.inl rfl)) (pss_one (ps_if (pt_cmpR op_ge (pe_ix ix_list (pv 1) (pe_op op_sub (pv 2) pe_int) (fun _ _ => rfl)) (pe_ix ix_list (pv 1) (pv 2) (fun _ _ => rfl)) (nomark _)) (pss_one (ps_ret pe_bl)) pss_nil)))
      (pss_one (ps_ret (pe_cmpR (op_eqD hr.units) (pe_call G_sum_of (hr.mono (by decide)) (by rfl) m_sum_of k_sum_of b_sum_of .nil passL (pa_cons (pv 1) pa_nil)) (pe_call G_lowest (hr.mono (by decide)) (by rfl) m_lowest k_lowest b_lowest .nil (passes_call (E := E) (takes_of rfl rfl rfl rfl) (fun _ _ _ _ h => h)) (pa_cons (pv 0) pa_nil)) (nomark _)))))), ?_⟩
    have hlen := ok.len
    refine ⟨_, rfl, a, t, b, rfl, hA, kE, fun g => ?_⟩
    have ht : 0 ≤ t := by omega
    have hb : 1 ≤ b := by omega
    refine ⟨_, rfl, c, _, rfl, .inl hC, 1, _, rfl, ⟨by decide, by decide, by omega, by rw [List.length_map]; omega⟩, ?_⟩
    have en : (((xs.map V.int).length : Int) - 1).toNat = xs.length - 1 := by
      rw [List.length_map]
      omega
    rw [en]
    refine for_range (lo := 1) (n := _) (fun i σ H' => (∀ (j : Nat) (x y : Int), j < i → xs[j]? = some x → xs[j + 1]? = some y → x < y) ∧ H' = H ∧ ∃ v : Option V, σ = [some (.ref a), some (.ref c), v]) ⟨fun j x y z => absurd z (by omega), rfl, none, rfl⟩ ?_ ?_
    · rintro i σ H' hi ⟨hr, rfl, v, rfl⟩
      have i1 : i < xs.length := by omega
      have i2 : i + 1 < xs.length := by omega
      have g1 : (xs.map V.int)[i]? = some (.int xs[i]) := get_map (List.getElem?_eq_getElem i1)
      have g2 : (xs.map V.int)[i + 1]? = some (.int xs[i + 1]) := get_map (List.getElem?_eq_getElem i2)
      refine ⟨_, rfl, _, rfl, _, _, rfl, rfl, c, _, _, _, rfl, rfl, hC, at_of (j := i) (by omega) g1, _, rfl, _, rfl, c, _, _, _, rfl, rfl, hC, at_of (j := i + 1) (by omega) g2, _, _, rfl, rfl, _, rfl, ite2 (fun c0 => ?_) (fun c0 => ?_)⟩
      · have c0 := of_decide_eq_true c0
        have no : ¬ (Ris xs ∧ lowS xs = low t b) := fun z => by
          have := ris_at z.1 (List.getElem?_eq_getElem i1) (List.getElem?_eq_getElem i2)
          omega
        have := kQ ht hb H' (Same.refl _)
        rw [decide_eq_false no] at this
        exact this
      · refine ⟨fun j x y hj e1 e2 => ?_, rfl, _, rfl⟩
        have c0 : ¬ xs[i + 1] ≤ xs[i] := fun z => c0 (decide_eq_true z)
        by_cases hji : j < i
        · exact hr j x y hji e1 e2
        · obtain rfl : j = i := by omega
          rw [List.getElem?_eq_getElem i1] at e1
          rw [List.getElem?_eq_getElem i2] at e2
          cases e1
          cases e2
          omega
    · rintro σ H' ⟨hr, rfl, v, rfl⟩
      have rs : Ris xs := ris_adj fun j x y e1 e2 => hr j x y (by have := lt_of_get e2; omega) e1 e2
      refine ⟨_, rfl, c, xs, rfl, hC, ok, fun H1 p s1 np e1 => ?_⟩
      refine ⟨_, rfl, a, t, b, rfl, same_tup s1 hA, hz, fun z => absurd z g, fun _ H2 r s2 nr e2 => ?_⟩
      refine ⟨_, _, dp_pair (SqT.of (s2 _ _ e1)), dp_pair (SqT.of e2), rfl, rfl, ?_⟩
      have := kQ ht hb H2 (s1.trans s2)
      rw [eqv_pair]
      have e : decide ((lowS xs).1 = (low t b).1 ∧ (lowS xs).2 = (low t b).2) = decide (Ris xs ∧ lowS xs = low t b) := decide_eq_decide.mpr ⟨fun z => ⟨rs, Prod.ext z.1 z.2⟩, fun z => ⟨congrArg Prod.fst z.2, congrArg Prod.snd z.2⟩⟩
      rw [e]
      exact this

abbrev s_see_below : Stmt := topS 14
abbrev N_see_below : List Str := ["fraction"]
theorem sc_see_below : FnScope N_see_below ["fraction"] (defScope s_see_below) := ⟨rfl, rfl, rfl, by decide +kernel, rfl, by decide +kernel, by decide +kernel⟩
def sp_see_below (K : PySem.W.Frag) (e : ErrA) : Sp := fun vs H Q E => ∃ (a : Addr) (t b : Int), vs = [.ref a] ∧ SqT K H a [.int t, .int b] ∧ ((t < 0 ∨ b < 1) → E (.ref e.NoFraction) none H) ∧
  (0 ≤ t → 1 ≤ b → (t < 1 ∨ b ≤ t) → E (.ref e.NotBelow) none H) ∧ (1 ≤ t → t < b → Q .non H)
theorem ok_see_below (D : Stands K mg "see_below" s_see_below) (B : Bi mg) (Er : ErrOk K mg e)
    (h_see : Keeps P w K mg base 1 "see" ["fraction"] (sp_see K e)) : Keeps P w K mg base 2 "see_below" ["fraction"] (sp_see_below K e) := by
  obtain ⟨f, fd, F, mF⟩ := D
  obtain ⟨f_see, fd_see, G_see, b_see, m_see, k_see⟩ := h_see
  have h_NotBelow := Er.NotBelow
  refine ⟨f, fd, ?_, F.binds (ps := ["fraction"]) (fun _ _ _ _ _ _ us hl => match us, hl with | [_], _ => rfl), mF, F.kp⟩
  refine F.okX sc_see_below (fun vs H Q E h => ?_) (fun cdv A outer s H vs Q E hr h => ?_)
  · obtain ⟨a, t, b, rfl, hS, kE, kB, kQ⟩ := h
    rfl
  · obtain ⟨a, t, b, rfl, hS, kE, kB, kQ⟩ := h
    refine ⟨_, (pss_cons (ps_expr (pe_call G_see (hr.mono (by decide)) (by rfl) m_see k_see b_see .nil (passes_call (E := E) (takes_of rfl rfl rfl rfl) (fun _ _ _ _ h => h)) (pa_cons (pv 0) pa_nil)))
      (pss_one (ps_if (PW.pt (pw_or (pt_cmpR op_lt (pe_ix ix_tup (pv 0) pe_int (fun _ _ => rfl)) pe_int (nomark _)) (pw_or1 (pt_cmpR op_ge (pe_ix ix_tup (pv 0) pe_int (fun _ _ => rfl)) (pe_ix ix_tup (pv 0) pe_int (fun _ _ => rfl)) (nomark _))))) (pss_one (ps_raise rfl (takes_of rfl rfl rfl rfl) (pmk_own PySem.F.excBase_ValueError h_NotBelow.x h_NotBelow.g h_NotBelow.k (raises_own h_NotBelow.b h_NotBelow.t) rfl))) pss_nil))), ?_⟩
    refine ⟨_, rfl, a, t, b, rfl, hS, kE, fun g => ?_⟩
    have h0 : 0 ≤ t := by omega
    have hb : 1 ≤ b := by omega
    refine ⟨_, rfl, a, _, 0, _, rfl, rfl, hS, atI_nat (j := 0) rfl, _, _, rfl, rfl, _, rfl, ite2 (fun c => ?_) (fun c => ?_)⟩
    · refine iteT ?_
      exact kB h0 hb (.inl (of_decide_eq_true c))
    · have c0 : ¬ t < 1 := fun z => c (decide_eq_true z)
      refine ⟨_, rfl, a, _, 0, _, rfl, rfl, hS, atI_nat (j := 0) rfl, _, rfl, a, _, 1, _, rfl, rfl, hS, atI_nat (j := 1) rfl, _, _, rfl, rfl, _, rfl, ite2 (fun c => ?_) (fun c => ?_)⟩
      · exact kB h0 hb (.inr (of_decide_eq_true c))
      · have c1 : ¬ b ≤ t := fun z => c (decide_eq_true z)
        exact kQ (by omega) (by omega)

abbrev s_see_share : Stmt := topS 17
abbrev N_see_share : List Str := ["share"]
theorem sc_see_share : FnScope N_see_share ["share"] (defScope s_see_share) := ⟨rfl, rfl, rfl, by decide +kernel, rfl, by decide +kernel, by decide +kernel⟩
def sp_see_share (K : PySem.W.Frag) (e : ErrA) : Sp := fun vs H Q E => ∃ i : Int, vs = [.int i] ∧ 0 ≤ i ∧ Sz 2700 i ∧ (Big i → E (.ref e.TooGreat) none H) ∧ (¬ Big i → Q .non H)
theorem ok_see_share (D : Stands K mg "see_share" s_see_share) (B : Bi mg) (Er : ErrOk K mg e)
    (h_MOST : ∃ t, mg "MOST" = some (.int 400 t)) : Keeps P w K mg base 1 "see_share" ["share"] (sp_see_share K e) := by
  obtain ⟨f, fd, F, mF⟩ := D
  obtain ⟨t_MOST, h_MOST⟩ := h_MOST
  have h_TooGreat := Er.TooGreat
  refine ⟨f, fd, ?_, F.binds (ps := ["share"]) (fun _ _ _ _ _ _ us hl => match us, hl with | [_], _ => rfl), mF, F.kp⟩
  refine F.okX sc_see_share (fun vs H Q E h => ?_) (fun cdv A outer s H vs Q E hr h => ?_)
  · obtain ⟨i, rfl, h0, hz, kE, kQ⟩ := h
    rfl
  · obtain ⟨i, rfl, h0, hz, kE, kQ⟩ := h
    refine ⟨_, (pss_one (ps_if (pt_cmpR op_gt (pe_callB call_len_str (by rfl) B.len (by decide +kernel) (pa_cons (pe_callTy (call_str_big rfl Er.dig) (by rfl) B.str (by decide +kernel) (pa_cons (pv 0) pa_nil)) pa_nil)) (pe_glob (v := .int 400) (by rfl) h_MOST ⟨_, rfl⟩) (nomark _)) (pss_one (ps_raise rfl (takes_of rfl rfl rfl rfl) (pmk_own PySem.F.excBase_ValueError h_TooGreat.x h_TooGreat.g h_TooGreat.k (raises_own h_TooGreat.b h_TooGreat.t) rfl))) pss_nil)), ?_⟩
    refine ⟨_, rfl, _, rfl, Nat.lt_trans hz big4300, _, rfl, slen_fits h0 hz, _, _, rfl, rfl, _, rfl, ?_⟩
    rw [big_dec]
    refine ite2 (fun c => ?_) (fun c => ?_)
    · exact kE (of_decide_eq_true c)
    · exact kQ fun z => c (decide_eq_true z)

abbrev s_up : Stmt := topS 18
abbrev N_up : List Str := ["top", "bottom"]
theorem sc_up : FnScope N_up ["top", "bottom"] (defScope s_up) := ⟨rfl, rfl, rfl, by decide +kernel, rfl, by decide +kernel, by decide +kernel⟩
def sp_up (K : PySem.W.Frag) (_ : ErrA) : Sp := fun vs H Q _ => ∃ t b : Int, vs = [.int t, .int b] ∧ 1 ≤ b ∧ Sz 9000 b ∧ Q (.int (upF t b)) H
theorem ok_up (D : Stands K mg "up" s_up) (B : Bi mg) (Er : ErrOk K mg e) : Keeps P w K mg base 1 "up" ["top", "bottom"] (sp_up K e) := by
  obtain ⟨f, fd, F, mF⟩ := D
  refine ⟨f, fd, ?_, F.binds (ps := ["top", "bottom"]) (fun _ _ _ _ _ _ us hl => match us, hl with | [_, _], _ => rfl), mF, F.kp⟩
  refine toX (F.ok sc_up (fun vs H Q E h => ?_) (fun cdv A outer s H vs Q E hr h => ?_))
  · obtain ⟨t, b, rfl, hb, hz, q⟩ := h
    rfl
  · obtain ⟨t, b, rfl, hb, hz, q⟩ := h
    refine ⟨_, (pss_one (ps_ret (pe_op op_fdivP (pe_op op_sub (pe_op op_add (pv 0) (pv 1)) pe_int) (pv 1)))), ?_⟩
    exact ⟨_, rfl, _, rfl, _, _, rfl, rfl, _, _, rfl, rfl, _, rfl, _, _, rfl, rfl, hz.cd (by omega), q⟩

abbrev s_greatest_first : Stmt := topS 19
abbrev N_greatest_first : List Str := ["fraction", "left", "found", "share"]
theorem sc_greatest_first : FnScope N_greatest_first ["fraction"] (defScope s_greatest_first) := ⟨rfl, rfl, rfl, by decide +kernel, rfl, by decide +kernel, by decide +kernel⟩
theorem left_monoG {i j : Int} {K : PySem.W.Frag} {n : Nat} (σ : L2.St) (H : Hp) (Q Q' : Bool → Hp → Prop) (hq : ∀ b H1, Q b H1 → Q' b H1) (h : tTest (tOp (rI0 fun i j => .bl (decide (j < i))) (tOp (rIxT K) (tVar n) (tC (.int i))) (tC (.int j))) σ H Q) :
    tTest (tOp (rI0 fun i j => .bl (decide (j < i))) (tOp (rIxT K) (tVar n) (tC (.int i))) (tC (.int j))) σ H Q' := by
  obtain ⟨v, e1, p, xs, i, x, h1, h2, h3, h4, i', j', h5, h6, k, h7, h8⟩ := h
  exact ⟨v, e1, p, xs, i, x, h1, h2, h3, h4, i', j', h5, h6, k, h7, hq _ _ h8⟩
def sp_greatest_first (K : PySem.W.Frag) (e : ErrA) : Sp := fun vs H Q E => ∃ (a : Addr) (t b : Int), vs = [.ref a] ∧ SqT K H a [.int t, .int b] ∧ b ≤ 1000 ∧ ((t < 0 ∨ b < 1) → E (.ref e.NoFraction) none H) ∧
  (0 ≤ t → 1 ≤ b → (t < 1 ∨ b ≤ t) → E (.ref e.NotBelow) none H) ∧ (1 ≤ t → t < b → gws (low t b).1 (low t b).2 = none → ∀ H', Same H H' → E (.ref e.TooGreat) none H') ∧
  (1 ≤ t → t < b → ∀ xs, gws (low t b).1 (low t b).2 = some xs → ∀ H' p, Same H H' → H p = none → H' p = some (.lst (xs.map V.int)) → Q (.ref p) H')
theorem ok_greatest_first (D : Stands K mg "greatest_first" s_greatest_first) (B : Bi mg) (Er : ErrOk K mg e)
    (h_see_below : Keeps P w K mg base 2 "see_below" ["fraction"] (sp_see_below K e))
    (h_lowest : Keeps P w K mg base 2 "lowest" ["fraction"] (sp_lowest K e))
    (h_up : Keeps P w K mg base 1 "up" ["top", "bottom"] (sp_up K e))
    (h_see_share : Keeps P w K mg base 1 "see_share" ["share"] (sp_see_share K e))
    (h_taken : Keeps P w K mg base 3 "taken" ["one", "other"] (sp_taken K e)) : Keeps P w K mg base 4 "greatest_first" ["fraction"] (sp_greatest_first K e) := by
  obtain ⟨f, fd, F, mF⟩ := D
  obtain ⟨f_see_below, fd_see_below, G_see_below, b_see_below, m_see_below, k_see_below⟩ := h_see_below
  obtain ⟨f_lowest, fd_lowest, G_lowest, b_lowest, m_lowest, k_lowest⟩ := h_lowest
  obtain ⟨f_up, fd_up, G_up, b_up, m_up, k_up⟩ := h_up
  obtain ⟨f_see_share, fd_see_share, G_see_share, b_see_share, m_see_share, k_see_share⟩ := h_see_share
  obtain ⟨f_taken, fd_taken, G_taken, b_taken, m_taken, k_taken⟩ := h_taken
  refine ⟨f, fd, ?_, F.binds (ps := ["fraction"]) (fun _ _ _ _ _ _ us hl => match us, hl with | [_], _ => rfl), mF, F.kp⟩
  refine F.okX sc_greatest_first (fun vs H Q E h => ?_) (fun cdv A outer s H vs Q E hr h => ?_)
  · obtain ⟨a, t, b, rfl, hS, hb0, kE, kB, kT, kQ⟩ := h
    rfl
  · obtain ⟨a, t, b, rfl, hS, hb0, kE, kB, kT, kQ⟩ := h
    refine ⟨_, (pss_cons (ps_expr (pe_call G_see_below (hr.mono (by decide)) (by rfl) m_see_below k_see_below b_see_below .nil (passes_call (E := E) (takes_of rfl rfl rfl rfl) (fun _ _ _ _ h => h)) (pa_cons (pv 0) pa_nil)))
      (pss_cons (ps_set (i := 1) sc_greatest_first.nd rfl (Or.inl rfl) (pe_call G_lowest (hr.mono (by decide)) (by rfl) m_lowest k_lowest b_lowest .nil (passes_call (E := E) (takes_of rfl rfl rfl rfl) (fun _ _ _ _ h => h)) (pa_cons (pv 0) pa_nil)))
      (pss_cons (ps_set (i := 2) sc_greatest_first.nd rfl (Or.inl rfl) (pe_lst pa_nil))
      (pss_cons (ps_while (passes_of rfl) (pt_cmpR op_gt (pe_ix ix_tup (pv 1) pe_int (fun _ _ => rfl)) pe_int (nomark _)) (pss_cons (ps_set (i := 3) sc_greatest_first.nd rfl (Or.inl rfl) (pe_call G_up (hr.mono (by decide)) (by rfl) m_up k_up b_up .nil passL (pa_cons (pe_ix ix_tup (pv 1) pe_int (fun _ _ => rfl)) (pa_cons (pe_ix ix_tup (pv 1) pe_int (fun _ _ => rfl)) pa_nil))))
      (pss_cons (ps_expr (pe_call G_see_share (hr.mono (by decide)) (by rfl) m_see_share k_see_share b_see_share .nil (passes_call (E := E) (takes_of rfl rfl rfl rfl) (fun _ _ _ _ h => h)) (pa_cons (pv 3) pa_nil)))
      (pss_cons (ps_expr (pe_bm PySem.F.plainAttrs_list PySem.F.slot_list_append PySem.F.type_list_append mt_append (pv 2) (pa_cons (pv 3) pa_nil)))
      (pss_one (ps_set (i := 1) sc_greatest_first.nd rfl (Or.inl rfl) (pe_call G_taken (hr.mono (by decide)) (by rfl) m_taken k_taken b_taken .nil (passes_call (E := E) (takes_of rfl rfl rfl rfl) (fun _ _ _ _ h => h)) (pa_cons (pv 1) (pa_cons (pe_tup (pa_cons pe_int (pa_cons (pv 3) pa_nil))) pa_nil)))))))))
      (pss_one (ps_ret (pv 2))))))), ?_⟩
    refine ⟨_, rfl, a, t, b, rfl, hS, kE, kB, fun g1 g2 => ?_⟩
    have hz : Sz 10 b := by
      show b.natAbs < 1024
      omega
    refine ⟨_, rfl, a, t, b, rfl, hS, hz.mono, fun z => absurd z (by omega), fun _ H1 p s1 np ep => ?_⟩
    refine ⟨Nat.zero_le _, fun L hL => ?_⟩
    have b1 : 1 ≤ b := by omega
    have c0 := low_cross t b
    have l1 := low_bpos (t := t) b1
    have l2 := low_tnn (t := t) b1 (by omega)
    have l3 := low_ble (t := t) b1
    have l5 := low_tle (b := b) (by omega : 0 ≤ t)
    have l4 : (low t b).1 < (low t b).2 := by
      refine Int.lt_of_mul_lt_mul_right (a := b) ?_ (by omega)
      rw [← c0, Int.mul_comm]
      exact Int.mul_lt_mul_of_pos_left g2 (by omega)
    have kT := kT g1 g2
    have kQ := kQ g1 g2
    have zB : Sz 2670 (low t b).2 := ((by show (low t b).2.natAbs < 1024; omega : Sz 10 (low t b).2)).mono
    generalize (low t b).1 = T at *
    generalize (low t b).2 = B at *
    have sL := same_mut (o := .lst []) s1 (s1.free hL)
    refine while_by (fun σ H' => Same H H' ∧ ∃ (q : Addr) (u v : Int) (acc : List Int) (x : Option V), σ = [some (.ref a), some (.ref q), some (.ref L), x] ∧ H' q = some (.tup [.int u, .int v]) ∧ H' L = some (.lst (acc.map V.int)) ∧
        0 ≤ u ∧ u < v ∧ u ≤ 1000 ∧ Sz 2670 v ∧ gws T B = (gws u v).map (acc ++ ·) ∧ (acc.length : Int) + u ≤ 1000)
      (fun σ H' => match σ with | [_, some (.ref q), _, _] => (match H' q with | some (.tup [.int u, _]) => u.toNat | _ => 0) | _ => 0) ?_ ?_ left_monoG
    · exact ⟨sL, p, _, _, [], none, rfl, same_new hL _ _ ep, upd_same, l2, l4, by omega, zB, by simp, by show (0 : Int) + _ ≤ 1000; omega⟩
    · rintro σ H2 ⟨s2, q, u, v, acc, x, rfl, eq, eL, u0, uv, ub, zv, er, al⟩
      refine ⟨_, rfl, q, _, 0, _, rfl, rfl, SqT.of eq, atI_nat (j := 0) rfl, _, _, rfl, rfl, _, rfl, ite2 (fun c => ?_) (fun c => ?_)⟩
      · have c : 0 < u := of_decide_eq_true c
        have zu : Sz 10 u := by
          show u.natAbs < 1024
          omega
        have v1 : 1 ≤ v := by omega
        have n1 := upF_pos (B := v) (T := u) (by omega) v1
        have n2 := upF_le (B := v) (T := u) (by omega) v1
        have hi := upF_hi (B := v) (T := u) (by omega)
        refine ⟨_, rfl, q, _, 1, _, rfl, rfl, SqT.of eq, atI_nat (j := 1) rfl, _, rfl, q, _, 0, _, rfl, rfl, SqT.of eq, atI_nat (j := 0) rfl, v, u, rfl, by omega, zu.mono, ?_⟩
        refine ⟨_, rfl, _, rfl, by omega, (zv.mono : Sz 2700 v).le (by omega) n2, fun bg => ?_, fun bg => ?_⟩
        · rw [show gws u v = none from gws_big (by omega) bg] at er
          exact kT er H2 s2
        obtain ⟨y1, y2, y3, y4⟩ := lft_sz (T := u) (B := v) (by omega) v1 ub bg
        refine ⟨_, rfl, .inl ⟨rfl, _, SqL.of eL⟩, _, rfl, L, _, _, rfl, rfl, eL, by
          rw [List.length_map]
          exact szl_lt (by omega), ?_⟩
        have qL : q ≠ L := ne_of eq eL (fun z => by cases z)
        have eq' : (upd H2 L (.lst (acc.map V.int ++ [.int (upF v u)]))) q = some (.tup [.int u, .int v]) := by
          rw [upd_ne qL]
          exact eq
        have eL' : (upd H2 L (.lst (acc.map V.int ++ [.int (upF v u)]))) L = some (.lst ((acc ++ [upF v u]).map V.int)) := by
          rw [upd_same, List.map_append] <;> rfl
        have s3 := same_mut (o := .lst (acc.map V.int ++ [.int (upF v u)])) s2 (s1.free hL)
        generalize (upd H2 L (.lst (acc.map V.int ++ [.int (upF v u)]))) = H3 at eq' eL' s3
        refine ⟨_, rfl, _, rfl, by show 2 ≤ sizeLine; decide, fun o no => ?_⟩
        have s5 := same_new (o := .tup [.int 1, .int (upF v u)]) no
        refine ⟨q, o, u, v, 1, upF v u, rfl, SqT.of (s5 _ _ eq'), SqT.of upd_same, zu.mono, y1.mono, Sz.one, y2.mono, fun z => absurd z (by omega), fun _ _ _ _ z => absurd z (by rw [Int.mul_comm, Int.one_mul]; omega), fun _ _ _ _ z H6 r s6 nr er6 => ?_⟩
        have s46 := s5.trans s6
        have e1 : u * upF v u - 1 * v = nxt u v := by
          unfold nxt
          omega
        rw [e1] at er6
        have er6 : H6 r = some (.tup [.int (lft u v).1, .int (lft u v).2]) := er6
        have k1 := lft_nn (T := u) (B := v) (by omega) v1
        have k5 := lft_below (T := u) (B := v) (by omega) v1 uv
        have k4 := lft_lt (T := u) (B := v) (by omega)
        refine ⟨⟨s3.trans s46, r, _, _, acc ++ [upF v u], _, rfl, er6, s46 _ _ eL', k1, k5, y4, y3, ?_, ?_⟩, ?_⟩
        · rw [er, show gws u v = _ from gws_cons (by omega) bg, Option.map_map]
          congr 1
          funext l
          simp
        · rw [List.length_append, List.length_singleton]
          omega
        · show (match H6 r with | some (.tup [.int u, _]) => u.toNat | _ => 0) < (match H2 q with | some (.tup [.int u, _]) => u.toNat | _ => 0)
          rw [er6, eq]
          show (lft u v).1.toNat < u.toNat
          omega
      · have c : ¬ 0 < u := fun z => c (decide_eq_true z)
        rw [show gws u v = some [] from gws_nil (by omega)] at er
        have er : gws T B = some (acc ++ []) := er
        rw [List.append_nil] at er
        exact ⟨_, rfl, kQ _ er H2 L s2 (s1.free hL) eL⟩

abbrev s_rising_factors : Stmt := topS 20
abbrev N_rising_factors : List Str := ["fraction", "left", "found", "number"]
theorem sc_rising_factors : FnScope N_rising_factors ["fraction"] (defScope s_rising_factors) := ⟨rfl, rfl, rfl, by decide +kernel, rfl, by decide +kernel, by decide +kernel⟩
theorem left_mono {tb : TE} {i j : Int} {K : PySem.W.Frag} {n : Nat} (σ : L2.St) (H : Hp) (Q Q' : Bool → Hp → Prop) (hq : ∀ b H1, Q b H1 → Q' b H1) (h : tTest (tOp (rI0 fun i j => .bl (decide (j < i))) (tOp (rIxT K) (tVar n) (tC (.int i))) (tC (.int j))) σ H Q) :
    tTest (tOp (rI0 fun i j => .bl (decide (j < i))) (tOp (rIxT K) (tVar n) (tC (.int i))) (tC (.int j))) σ H Q' := by
  obtain ⟨v, e1, p, xs, i, x, h1, h2, h3, h4, i', j', h5, h6, k, h7, h8⟩ := h
  exact ⟨v, e1, p, xs, i, x, h1, h2, h3, h4, i', j', h5, h6, k, h7, hq _ _ h8⟩
def sp_rising_factors (K : PySem.W.Frag) (e : ErrA) : Sp := fun vs H Q E => ∃ (a : Addr) (t b : Int), vs = [.ref a] ∧ SqT K H a [.int t, .int b] ∧ b ≤ 1000000 ∧ ((t < 0 ∨ b < 1) → E (.ref e.NoFraction) none H) ∧
  (0 ≤ t → 1 ≤ b → (t < 1 ∨ b ≤ t) → E (.ref e.NotBelow) none H) ∧ (1 ≤ t → t < b → ∀ H' p, Same H H' → H p = none → H' p = some (.lst ((rfs t b).map V.int)) → Q (.ref p) H')
theorem ok_rising_factors (D : Stands K mg "rising_factors" s_rising_factors) (B : Bi mg) (Er : ErrOk K mg e)
    (h_see_below : Keeps P w K mg base 2 "see_below" ["fraction"] (sp_see_below K e))
    (h_lowest : Keeps P w K mg base 2 "lowest" ["fraction"] (sp_lowest K e))
    (h_up : Keeps P w K mg base 1 "up" ["top", "bottom"] (sp_up K e))
    (h_taken : Keeps P w K mg base 3 "taken" ["one", "other"] (sp_taken K e)) : Keeps P w K mg base 4 "rising_factors" ["fraction"] (sp_rising_factors K e) := by
  obtain ⟨f, fd, F, mF⟩ := D
  obtain ⟨f_see_below, fd_see_below, G_see_below, b_see_below, m_see_below, k_see_below⟩ := h_see_below
  obtain ⟨f_lowest, fd_lowest, G_lowest, b_lowest, m_lowest, k_lowest⟩ := h_lowest
  obtain ⟨f_up, fd_up, G_up, b_up, m_up, k_up⟩ := h_up
  obtain ⟨f_taken, fd_taken, G_taken, b_taken, m_taken, k_taken⟩ := h_taken
  refine ⟨f, fd, ?_, F.binds (ps := ["fraction"]) (fun _ _ _ _ _ _ us hl => match us, hl with | [_], _ => rfl), mF, F.kp⟩
  refine F.okX sc_rising_factors (fun vs H Q E h => ?_) (fun cdv A outer s H vs Q E hr h => ?_)
  · obtain ⟨a, t, b, rfl, hS, hb0, kE, kB, kQ⟩ := h
    rfl
  · obtain ⟨a, t, b, rfl, hS, hb0, kE, kB, kQ⟩ := h
    refine ⟨_, (pss_cons (ps_expr (pe_call G_see_below (hr.mono (by decide)) (by rfl) m_see_below k_see_below b_see_below .nil (passes_call (E := E) (takes_of rfl rfl rfl rfl) (fun _ _ _ _ h => h)) (pa_cons (pv 0) pa_nil)))
      (pss_cons (ps_set (i := 1) sc_rising_factors.nd rfl (Or.inl rfl) (pe_call G_lowest (hr.mono (by decide)) (by rfl) m_lowest k_lowest b_lowest .nil (passes_call (E := E) (takes_of rfl rfl rfl rfl) (fun _ _ _ _ h => h)) (pa_cons (pv 0) pa_nil)))
      (pss_cons (ps_set (i := 2) sc_rising_factors.nd rfl (Or.inl rfl) (pe_lst pa_nil))
      (pss_cons (ps_while (passes_of rfl) (pt_cmpR op_gt (pe_ix ix_tup (pv 1) pe_int (fun _ _ => rfl)) pe_int (nomark _)) (pss_cons (ps_set (i := 3) sc_rising_factors.nd rfl (Or.inl rfl) (pe_call G_up (hr.mono (by decide)) (by rfl) m_up k_up b_up .nil passL (pa_cons (pe_ix ix_tup (pv 1) pe_int (fun _ _ => rfl)) (pa_cons (pe_ix ix_tup (pv 1) pe_int (fun _ _ => rfl)) pa_nil))))
      (pss_cons (ps_expr (pe_bm PySem.F.plainAttrs_list PySem.F.slot_list_append PySem.F.type_list_append mt_append (pv 2) (pa_cons (pv 3) pa_nil)))
      (pss_one (ps_set (i := 1) sc_rising_factors.nd rfl (Or.inl rfl) (pe_call G_taken (hr.mono (by decide)) (by rfl) m_taken k_taken b_taken .nil (passes_call (E := E) (takes_of rfl rfl rfl rfl) (fun _ _ _ _ h => h)) (pa_cons (pe_tup (pa_cons (pe_op op_mulW (pe_ix ix_tup (pv 1) pe_int (fun _ _ => rfl)) (pv 3)) (pa_cons (pe_ix ix_tup (pv 1) pe_int (fun _ _ => rfl)) pa_nil))) (pa_cons (pe_tup (pa_cons pe_int (pa_cons pe_int pa_nil))) pa_nil))))))))
      (pss_one (ps_ret (pv 2))))))), ?_⟩
    refine ⟨_, rfl, a, t, b, rfl, hS, kE, kB, fun g1 g2 => ?_⟩
    have hz : Sz 1000 b := Sz.mono (a := 20) (by show b.natAbs < 1048576; omega)
    refine ⟨_, rfl, a, t, b, rfl, hS, hz.mono, fun z => absurd z (by omega), fun _ H1 p s1 np ep => ?_⟩
    refine ⟨Nat.zero_le _, fun L hL => ?_⟩
    have b1 : 1 ≤ b := by omega
    have c0 := low_cross t b
    have l1 := low_bpos (t := t) b1
    have l2 := low_tnn (t := t) b1 (by omega)
    have l3 := low_ble (t := t) b1
    have l4 : (low t b).1 < (low t b).2 := by
      refine Int.lt_of_mul_lt_mul_right (a := b) ?_ (by omega)
      rw [← c0, Int.mul_comm]
      exact Int.mul_lt_mul_of_pos_left g2 (by omega)
    have eq0 : rfs (low t b).1 (low t b).2 = rfs t b := (rfs_rel b1 l1 t _ (by omega) l2 c0).symm
    have sL := same_mut (o := .lst []) s1 (s1.free hL)
    refine while_by (fun σ H' => Same H H' ∧ ∃ (q : Addr) (u v : Int) (acc : List Int) (x : Option V), σ = [some (.ref a), some (.ref q), some (.ref L), x] ∧ H' q = some (.tup [.int u, .int v]) ∧ H' L = some (.lst (acc.map V.int)) ∧
        0 ≤ u ∧ u < v ∧ v ≤ b ∧ acc ++ rfs u v = rfs t b ∧ (acc.length : Int) + u ≤ b)
      (fun σ H' => match σ with | [_, some (.ref q), _, _] => (match H' q with | some (.tup [.int u, _]) => u.toNat | _ => 0) | _ => 0) ?_ ?_ (left_mono (tb := tVar 0))
    · have := low_tle (b := b) (by omega : 0 ≤ t)
      exact ⟨sL, p, _, _, [], none, rfl, same_new hL _ _ ep, upd_same, l2, l4, l3, by rw [List.nil_append, eq0], by show (0 : Int) + _ ≤ b; omega⟩
    · rintro σ H2 ⟨s2, q, u, v, acc, x, rfl, eq, eL, u0, uv, vb, er, al⟩
      refine ⟨_, rfl, q, _, 0, _, rfl, rfl, SqT.of eq, atI_nat (j := 0) rfl, _, _, rfl, rfl, _, rfl, ite2 (fun c => ?_) (fun c => ?_)⟩
      · have c : 0 < u := of_decide_eq_true c
        have zv : Sz 1000 v := hz.le (by omega) vb
        have zu : Sz 1000 u := zv.le u0 (by omega)
        have n1 := upF_pos (B := v) (T := u) (by omega) (by omega)
        have n2 := upF_le (B := v) (T := u) (by omega) (by omega)
        have zn : Sz 1000 (upF v u) := zv.le (by omega) n2
        have hi := upF_hi (B := v) (T := u) (by omega)
        refine ⟨_, rfl, q, _, 1, _, rfl, rfl, SqT.of eq, atI_nat (j := 1) rfl, _, rfl, q, _, 0, _, rfl, rfl, SqT.of eq, atI_nat (j := 0) rfl, v, u, rfl, by omega, zu.mono, ?_⟩
        refine ⟨_, rfl, .inl ⟨rfl, _, SqL.of eL⟩, _, rfl, L, _, _, rfl, rfl, eL, by
          rw [List.length_map]
          refine szl_lt ?_
          omega, ?_⟩
        have qL : q ≠ L := ne_of eq eL (fun z => by cases z)
        have eq' : (upd H2 L (.lst (acc.map V.int ++ [.int (upF v u)]))) q = some (.tup [.int u, .int v]) := by
          rw [upd_ne qL]
          exact eq
        have eL' : (upd H2 L (.lst (acc.map V.int ++ [.int (upF v u)]))) L = some (.lst ((acc ++ [upF v u]).map V.int)) := by
          rw [upd_same, List.map_append] <;> rfl
        have s3 := same_mut (o := .lst (acc.map V.int ++ [.int (upF v u)])) s2 (s1.free hL)
        generalize (upd H2 L (.lst (acc.map V.int ++ [.int (upF v u)]))) = H3 at eq' eL' s3
        refine ⟨_, rfl, q, _, 0, _, rfl, rfl, SqT.of eq', atI_nat (j := 0) rfl, _, rfl, _, _, rfl, rfl, zu.cm zn, _, rfl, q, _, 1, _, rfl, rfl, SqT.of eq', atI_nat (j := 1) rfl, by show 2 ≤ sizeLine; decide, fun f nf => ?_⟩
        have s4 := same_new (o := .tup [.int (u * upF v u), .int v]) nf
        refine ⟨by show 2 ≤ sizeLine; decide, fun o no => ?_⟩
        have s5 := same_new (o := .tup [.int 1, .int 1]) no
        have un : 0 ≤ u * upF v u := Int.mul_nonneg u0 (by omega)
        refine ⟨f, o, u * upF v u, v, 1, 1, rfl, SqT.of (s5 _ _ upd_same), SqT.of upd_same, (zu.mul zn).mono, zv.mono, Sz.one, Sz.one, fun z => absurd z (by omega), fun _ _ _ _ z => absurd z (by rw [Int.mul_comm] at hi; omega), fun _ _ _ _ z H6 r s6 nr er6 => ?_⟩
        have s46 := (s4.trans s5).trans s6
        have e1 : u * upF v u * 1 - 1 * v = nxt u v := by
          unfold nxt
          omega
        have e2 : v * 1 = v := Int.mul_one v
        rw [e1, e2] at er6
        have nn := nxt_nn (B := v) (T := u) (by omega)
        have nl := nxt_lt (B := v) (T := u) (by omega)
        have v1 : 1 ≤ v := by omega
        have k1 := low_tnn (t := nxt u v) v1 nn
        have k2 := low_bpos (t := nxt u v) v1
        have k3 := low_ble (t := nxt u v) v1
        have k4 := low_tle (b := v) nn
        have kc := low_cross (nxt u v) v
        have k5 : (low (nxt u v) v).1 < (low (nxt u v) v).2 := by
          refine Int.lt_of_mul_lt_mul_right (a := v) ?_ (by omega)
          rw [← kc, Int.mul_comm]
          exact Int.mul_lt_mul_of_pos_left (by omega) (by omega)
        refine ⟨⟨s3.trans s46, r, _, _, acc ++ [upF v u], _, rfl, er6, s46 _ _ eL', k1, k5, by omega, ?_, ?_⟩, ?_⟩
        · rw [← rfs_rel v1 k2 (nxt u v) _ nn k1 kc, List.append_assoc, List.singleton_append, ← rfs_cons (by omega)]
          exact er
        · rw [List.length_append, List.length_singleton]
          omega
        · show (match H6 r with | some (.tup [.int u, _]) => u.toNat | _ => 0) < (match H2 q with | some (.tup [.int u, _]) => u.toNat | _ => 0)
          rw [er6, eq]
          show (low (nxt u v) v).1.toNat < u.toNat
          omega
      · have c : ¬ 0 < u := fun z => c (decide_eq_true z)
        rw [rfs_nil (by omega), List.append_nil] at er
        rw [er] at eL
        exact ⟨_, rfl, kQ g1 g2 H2 L s2 (s1.free hL) eL⟩

abbrev s_rising : Stmt := topS 21
abbrev N_rising : List Str := ["fraction", "found", "share", "number"]
theorem sc_rising : FnScope N_rising ["fraction"] (defScope s_rising) := ⟨rfl, rfl, rfl, by decide +kernel, rfl, by decide +kernel, by decide +kernel⟩
theorem foldl_mul (l : List Int) (n : Int) : (l ++ [n]).foldl (· * ·) 1 = l.foldl (· * ·) 1 * n := by
  rw [List.foldl_append] <;> rfl
/-- products of small numbers: their size -/
theorem foldl_sz (xs : List Int) : (∀ n ∈ xs, 1 ≤ n ∧ Sz 20 n) → 1 ≤ xs.foldl (· * ·) 1 ∧ Sz (20 * xs.length + 1) (xs.foldl (· * ·) 1) := by
  refine snoc_ind (fun xs => (∀ n ∈ xs, 1 ≤ n ∧ Sz 20 n) → 1 ≤ xs.foldl (· * ·) 1 ∧ Sz (20 * xs.length + 1) (xs.foldl (· * ·) 1)) xs (fun _ => ⟨by decide, Sz.one⟩) (fun l x ih h => ?_)
  obtain ⟨h1, h2⟩ := ih fun y hy => h y (List.mem_append_left _ hy)
  obtain ⟨x1, x2⟩ := h x (List.mem_append_right _ List.mem_cons_self)
  rw [foldl_mul, List.length_append]
  exact ⟨Int.mul_pos (by omega) (by omega), (h2.mul x2).mono (by show 20 * l.length + 1 + 20 ≤ 20 * (l.length + 1) + 1; omega)⟩
def sp_rising (K : PySem.W.Frag) (e : ErrA) : Sp := fun vs H Q E => ∃ (a : Addr) (t b : Int), vs = [.ref a] ∧ SqT K H a [.int t, .int b] ∧ b ≤ 10000 ∧ ((t < 0 ∨ b < 1) → ∀ H', Same H H' → E (.ref e.NoFraction) none H') ∧
  (0 ≤ t → 1 ≤ b → (t < 1 ∨ b ≤ t) → ∀ H', Same H H' → E (.ref e.NotBelow) none H') ∧ (1 ≤ t → t < b → ∀ H' p, Same H H' → H p = none → H' p = some (.lst ((prodsF 1 (rfs t b)).map V.int)) → Q (.ref p) H')
theorem ok_rising (D : Stands K mg "rising" s_rising) (B : Bi mg) (Er : ErrOk K mg e)
    (h_rising_factors : Keeps P w K mg base 4 "rising_factors" ["fraction"] (sp_rising_factors K e)) : Keeps P w K mg base 5 "rising" ["fraction"] (sp_rising K e) := by
  obtain ⟨f, fd, F, mF⟩ := D
  obtain ⟨f_rising_factors, fd_rising_factors, G_rising_factors, b_rising_factors, m_rising_factors, k_rising_factors⟩ := h_rising_factors
  refine ⟨f, fd, ?_, F.binds (ps := ["fraction"]) (fun _ _ _ _ _ _ us hl => match us, hl with | [_], _ => rfl), mF, F.kp⟩
  refine F.okX sc_rising (fun vs H Q E h => ?_) (fun cdv A outer s H vs Q E hr h => ?_)
  · obtain ⟨a, t, b, rfl, hS, hb0, kE, kB, kQ⟩ := h
    rfl
  · obtain ⟨a, t, b, rfl, hS, hb0, kE, kB, kQ⟩ := h
    refine ⟨_, (pss_cons (ps_set (i := 1) sc_rising.nd rfl (Or.inl rfl) (pe_lst pa_nil))
      (pss_cons (ps_set (i := 2) sc_rising.nd rfl (Or.inl rfl) pe_int)
      (pss_cons (ps_for (passes_of rfl) rfl (pi_list (pe_call G_rising_factors (hr.mono (by decide)) (by rfl) m_rising_factors k_rising_factors b_rising_factors .nil (passes_call (E := E) (takes_of rfl rfl rfl rfl) (fun _ _ _ _ h => h)) (pa_cons (pv 0) pa_nil))) (pg_name (i := 3) sc_rising.nd rfl (Or.inl rfl)) (pss_cons (ps_set (i := 2) sc_rising.nd rfl (Or.inl rfl) (pe_op op_mulW (pv 2) (pv 3)))
      (pss_one (ps_expr (pe_bm PySem.F.plainAttrs_list PySem.F.slot_list_append PySem.F.type_list_append mt_append (pv 1) (pa_cons (pv 2) pa_nil))))))
      (pss_one (ps_ret (pv 1)))))), ?_⟩
    refine ⟨Nat.zero_le _, fun L hL => ?_⟩
    have sL := same_new (o := .lst []) hL
    have eL : (upd H L (.lst [])) L = some (.lst []) := upd_same
    refine ⟨_, rfl, a, t, b, rfl, same_tup sL hS, by omega, fun c => kE c _ sL, fun c1 c2 c3 => kB c1 c2 c3 _ sL, fun g1 g2 H1 p s1 np ep => ?_⟩
    have e1 := s1 _ _ eL
    have pL : L ≠ p := ne_of_none eL np
    have sH := sL.trans s1
    have lw := rfs_low (B := b) (by omega) t g2
    have ll := rfs_len (B := b) t (by omega)
    generalize rfs t b = xs at *
    refine ⟨p, rfl, ⟨_, SqL.of ep⟩, for_list (K := K) (a := p) (xs := xs.map V.int) (fun i σ H' => Same H H' ∧ H' p = some (.lst (xs.map V.int)) ∧ H' L = some (.lst ((prodsF 1 (xs.take i)).map V.int)) ∧
      ∃ v : Option V, σ = [some (.ref a), some (.ref L), some (.int ((xs.take i).foldl (· * ·) 1)), v]) ⟨sH, ep, e1, none, rfl⟩ (fun i σ H' _ h => SqL.of h.2.1) ?_ ?_⟩
    · rintro i y σ H2 hy ⟨s2, ep2, eL2, v, rfl⟩
      obtain ⟨n, en, rfl⟩ := of_get_map hy
      have hn := lw.1 n (List.mem_of_getElem? en)
      obtain ⟨f1, f2⟩ := foldl_sz (xs.take i) fun m hm => by
        have := lw.1 m (List.mem_of_mem_take hm)
        exact ⟨by omega, by show m.natAbs < 1048576; omega⟩
      have f3 : Sz 200021 ((xs.take i).foldl (· * ·) 1) := f2.mono (by rw [List.length_take]; omega)
      have zn : Sz 20 n := by
        show n.natAbs < 1048576
        omega
      refine ⟨_, rfl, _, rfl, _, _, rfl, rfl, f3.cm zn, ?_⟩
      refine ⟨_, rfl, .inl ⟨rfl, _, SqL.of eL2⟩, _, rfl, L, _, _, rfl, rfl, eL2, by
        rw [List.length_map, prodsF_len, List.length_take]
        exact szl_lt (by omega), same_mut s2 hL, ?_, ?_, some (.int n), ?_⟩
      · rw [upd_ne pL.symm]
        exact ep2
      · rw [upd_same, take_snoc en, prodsF_snoc, List.map_append, Int.one_mul]
        exact rfl
      · rw [take_snoc en, foldl_mul]
        exact rfl
    · rintro σ H2 ⟨s2, ep2, eL2, v, rfl⟩
      rw [List.length_map, List.take_length] at eL2
      exact ⟨_, rfl, kQ g1 g2 H2 L s2 hL eL2⟩

abbrev s_split : Stmt := topS 22
abbrev N_split : List Str := ["share"]
theorem sc_split : FnScope N_split ["share"] (defScope s_split) := ⟨rfl, rfl, rfl, by decide +kernel, rfl, by decide +kernel, by decide +kernel⟩
def sp_split (K : PySem.W.Frag) (_ : ErrA) : Sp := fun vs H Q _ => ∃ n : Int, vs = [.int n] ∧ Sz 4000 n ∧ ∀ H' p, Same H H' → H p = none → H' p = some (.lst ([n + 1, n * (n + 1)].map V.int)) → Q (.ref p) H'
theorem ok_split (D : Stands K mg "split" s_split) (B : Bi mg) (Er : ErrOk K mg e) : Keeps P w K mg base 1 "split" ["share"] (sp_split K e) := by
  obtain ⟨f, fd, F, mF⟩ := D
  refine ⟨f, fd, ?_, F.binds (ps := ["share"]) (fun _ _ _ _ _ _ us hl => match us, hl with | [_], _ => rfl), mF, F.kp⟩
  refine toX (F.ok sc_split (fun vs H Q E h => ?_) (fun cdv A outer s H vs Q E hr h => ?_))
  · obtain ⟨n, rfl, hz, q⟩ := h
    rfl
  · obtain ⟨n, rfl, hz, q⟩ := h
    refine ⟨_, (pss_one (ps_ret (pe_lst (pa_cons (pe_op op_add (pv 0) pe_int) (pa_cons (pe_op op_mulW (pv 0) (pe_op op_add (pv 0) pe_int)) pa_nil))))), ?_⟩
    refine ⟨_, rfl, _, _, rfl, rfl, _, rfl, _, rfl, _, _, rfl, rfl, _, _, rfl, rfl, hz.cm (hz.add Sz.one), by show 2 ≤ sizeLine; decide, fun p hp => ?_⟩
    exact q _ p (same_new hp) hp upd_same

abbrev s_ways_of : Stmt := topS 24
abbrev N_ways_of : List Str := ["left", "many", "least", "greatest", "found", "share", "tail"]
theorem sc_ways_of : FnScope N_ways_of ["left", "many", "least", "greatest"] (defScope s_ways_of) := ⟨rfl, rfl, rfl, by decide +kernel, rfl, by decide +kernel, by decide +kernel⟩
/-- what is asked, by many (one more than it is) -/
def sp_ways (K : PySem.W.Frag) (e : ErrA) : Nat → Sp
  | 0 => fun _ _ _ _ => False
  | m + 1 => fun vs H Q _ => ∃ (a : Addr) (T B l g : Int), vs = [.ref a, .int (m : Int), .int l, .int g] ∧ SqT K H a [.int T, .int B] ∧ m ≤ 4 ∧ 0 ≤ T ∧ 1 ≤ B ∧ T ≤ B ∧ Sz (38 - 6 * m) B ∧ 1 ≤ l ∧ l ≤ 100 ∧ 0 ≤ g ∧ g ≤ 60 ∧
    ∀ H' p ps, Same H H' → H p = none → H' p = some (.lst (ps.map V.ref)) → Rws H H' ps (Wy m T B l g) → p ∉ ps → Q (.ref p) H'
def sp_ways_of (K : PySem.W.Frag) (e : ErrA) : Sp := fun vs H Q E => ∃ m, m ≤ 4 ∧ sp_ways K e (m + 1) vs H Q E
theorem ok_ways_of (D : Stands K mg "ways_of" s_ways_of) (B : Bi mg) (Er : ErrOk K mg e)
    (h_up : Keeps P w K mg base 1 "up" ["top", "bottom"] (sp_up K e))
    (h_taken : Keeps P w K mg base 3 "taken" ["one", "other"] (sp_taken K e)) : Keeps P w K mg base 9 "ways_of" ["left", "many", "least", "greatest"] (sp_ways_of K e) := by
  obtain ⟨f, fd, F, mF⟩ := D
  obtain ⟨f_up, fd_up, G_up, b_up, m_up, k_up⟩ := h_up
  obtain ⟨f_taken, fd_taken, G_taken, b_taken, m_taken, k_taken⟩ := h_taken
  have fb : Binds K fd ["left", "many", "least", "greatest"] [] := F.binds (ps := ["left", "many", "least", "greatest"]) (fun _ _ _ _ _ _ us hl => match us, hl with | [_, _, _, _], _ => rfl)
  have all : ∀ m, FnOk P w K mg base (L2.CX P w) (m + 4) f fd ["left", "many", "least", "greatest"] (sp_ways K e m) := by
    intro m
    induction m with
    | zero => exact ⟨fun _ _ _ _ h => h.elim, fun _ _ _ _ _ _ _ _ _ _ _ _ _ h => h.elim⟩
    | succ m G_ways_of =>
      have m_ways_of := mF
      have k_ways_of := F.kp
      have b_ways_of := fb
      refine F.okX sc_ways_of (fun vs H Q E h => ?_) (fun cdv A outer s H vs Q E hr h => ?_)
      · obtain ⟨a, T, Bb, l, g, rfl, _⟩ := h
        rfl
      · obtain ⟨a, T, Bb, l, g, rfl, hS, m4, hT, hB, hTB, zB, hl, hl2, hg, hg2, q⟩ := h
        refine ⟨_, (pss_cons (ps_if (pt_cmpR op_eq (pv 1) pe_int (nomark _)) (pss_cons (ps_if (pt_cmpR op_eq (pe_ix ix_tup (pv 0) pe_int (fun _ _ => rfl)) pe_int (nomark _)) (pss_one (ps_ret (pe_lst (pa_cons (pe_lst pa_nil) pa_nil)))) pss_nil)
      (pss_one (ps_ret (pe_lst pa_nil)))) pss_nil)
      (pss_cons (ps_if (pt_cmpR op_eq (pe_ix ix_tup (pv 0) pe_int (fun _ _ => rfl)) pe_int (nomark _)) (pss_one (ps_ret (pe_lst pa_nil))) pss_nil)
      (pss_cons (ps_set (i := 4) sc_ways_of.nd rfl (Or.inl rfl) (pe_lst pa_nil))
      (pss_cons (ps_for (passes_of rfl) rfl (pi_range2 (by rfl) B.range (pa_cons (pe_callB (call_max2 rfl) (by rfl) B.max (by decide +kernel) (pa_cons (pv 2) (pa_cons (pe_call G_up (hr.mono (by omega)) (by rfl) m_up k_up b_up .nil passL (pa_cons (pe_ix ix_tup (pv 0) pe_int (fun _ _ => rfl)) (pa_cons (pe_ix ix_tup (pv 0) pe_int (fun _ _ => rfl)) pa_nil))) pa_nil))) (pa_cons (pe_op op_add (pe_callB (call_min2 rfl) (by rfl) B.min (by decide +kernel) (pa_cons (pv 3) (pa_cons (pe_op op_fdivP (pe_op op_mulW (pv 1) (pe_ix ix_tup (pv 0) pe_int (fun _ _ => rfl))) (pe_ix ix_tup (pv 0) pe_int (fun _ _ => rfl))) pa_nil))) pe_int) pa_nil))) (pg_name (i := 5) sc_ways_of.nd rfl (Or.inl rfl)) (pss_one (ps_for (passes_of rfl) rfl (pi_list (pe_call G_ways_of (hr.mono (by omega)) (by rfl) m_ways_of k_ways_of b_ways_of .nil (passes_call (E := E) (takes_of rfl rfl rfl rfl) (fun _ _ _ _ h => h)) (pa_cons (pe_call G_taken (hr.mono (by omega)) (by rfl) m_taken k_taken b_taken .nil (passes_call (E := E) (takes_of rfl rfl rfl rfl) (fun _ _ _ _ h => h)) (pa_cons (pv 0) (pa_cons (pe_tup (pa_cons pe_int (pa_cons (pv 5) pa_nil))) pa_nil))) (pa_cons (pe_op op_sub (pv 1) pe_int) (pa_cons (pe_op op_add (pv 5) pe_int) (pa_cons (pv 3) pa_nil)))))) (pg_name (i := 6) sc_ways_of.nd rfl (Or.inl rfl)) (pss_one (ps_expr (pe_bm PySem.F.plainAttrs_list PySem.F.slot_list_append PySem.F.type_list_append mt_append (pv 4) (pa_cons (pe_op op_cat (pe_lst (pa_cons (pv 5) pa_nil)) (pv 6)) pa_nil)))))))
      (pss_one (ps_ret (pv 4))))))), ?_⟩
        rcases m with _ | k
        · refine ⟨_, rfl, rfl, _, rfl, ite2 (fun _ => ?_) (fun z => absurd (decide_eq_true rfl) z)⟩
          refine ⟨_, rfl, a, _, 0, _, rfl, rfl, hS, atI_nat (j := 0) rfl, rfl, _, rfl, ite2 (fun c => ?_) (fun c => ?_)⟩
          · have c : T = 0 := V.int.inj (of_decide_eq_true c)
            refine ⟨Nat.zero_le _, fun r nr => ⟨by show 1 ≤ sizeLine; decide, fun p np => ?_⟩⟩
            refine q _ p [r] ((same_new nr).trans (same_new np)) ((same_new nr).free np) upd_same ?_ (fun z => ?_)
            · show Rws _ _ _ (if T = 0 then [[]] else [])
              rw [if_pos c]
              exact Rws.one nr (same_new np _ _ upd_same)
            · rw [List.mem_singleton.mp z, upd_same] at np
              cases np
          · have c : ¬ T = 0 := fun z => c (decide_eq_true (congrArg V.int z))
            refine ⟨Nat.zero_le _, fun p np => q _ p [] (same_new np) np upd_same ?_ (by simp)⟩
            show Rws _ _ _ (if T = 0 then [[]] else [])
            rw [if_neg c]
            exact Rws.nil
        · refine ⟨_, rfl, rfl, _, rfl, ite2 (fun z => absurd (V.int.inj (of_decide_eq_true z)) (by omega)) (fun _ => ?_)⟩
          refine ⟨_, rfl, a, _, 0, _, rfl, rfl, hS, atI_nat (j := 0) rfl, rfl, _, rfl, ite2 (fun c => ?_) (fun c => ?_)⟩
          · have c : T = 0 := V.int.inj (of_decide_eq_true c)
            refine ⟨Nat.zero_le _, fun p np => q _ p [] (same_new np) np upd_same ?_ (by simp)⟩
            have z : Wy (k + 1) T Bb l g = [] := if_pos c
            rw [z]
            exact Rws.nil
          · have c : ¬ T = 0 := fun z => c (decide_eq_true (congrArg V.int z))
            have hT1 : 1 ≤ T := by omega
            have zT : Sz 40 T := (zB.mono (by omega) : Sz 40 Bb).le hT hTB
            have zB40 : Sz 40 Bb := zB.mono (by omega)
            have u1 := upF_pos (B := Bb) hT1 hB
            have u2 := upF_le (B := Bb) hT1 hB
            have u3 := upF_hi (B := Bb) hT1
            have b40 : Bb < 1099511627776 := by
              have : Bb.natAbs < 2 ^ 40 := zB40
              omega
            have kz : Sz 4 ((k + 1 : Nat) : Int) := by
              show ((k + 1 : Nat) : Int).natAbs < 16
              omega
            refine ⟨Nat.zero_le _, fun F nF => ?_⟩
            have sF := same_new (o := .lst []) nF
            have eF : (upd H F (.lst [])) F = some (.lst []) := upd_same
            dsimp only
            generalize (upd H F (.lst [])) = H1 at sF eF
            have hS1 := same_tup sF hS
            refine ⟨_, rfl, _, rfl, a, _, 1, _, rfl, rfl, hS1, atI_nat (j := 1) rfl, _, rfl, a, _, 0, _, rfl, rfl, hS1, atI_nat (j := 0) rfl, Bb, T, rfl, hT1, zT.mono, _, _, rfl, ?_⟩
            refine ⟨_, rfl, _, rfl, _, rfl, a, _, 1, _, rfl, rfl, hS1, atI_nat (j := 1) rfl, _, _, rfl, rfl, kz.cm zB40, _, rfl, a, _, 0, _, rfl, rfl, hS1, atI_nat (j := 0) rfl, _, _, rfl, rfl, zT.cd (by omega), _, _, rfl, _, _, rfl, rfl, ?_⟩
            have e1 : (if upF Bb T > l then upF Bb T else l) = max l (upF Bb T) := by split <;> omega
            have e2 : (if ((k + 1 : Nat) : Int) * Bb / T < g then ((k + 1 : Nat) : Int) * Bb / T else g) = min g (((k + 1 : Nat) : Int) * Bb / T) := by split <;> omega
            have d0 : 0 ≤ ((k + 1 : Nat) : Int) * Bb / T := Int.ediv_nonneg (Int.mul_nonneg (by omega) (by omega)) (by omega)
            have ew : Wy (k + 1) T Bb l g = (span (max l (upF Bb T)) (min g (((k + 1 : Nat) : Int) * Bb / T))).flatMap fun s => (Wy k (low (T * s - 1 * Bb) (Bb * s)).1 (low (T * s - 1 * Bb) (Bb * s)).2 (s + 1) g).map (s :: ·) := if_neg c
            have wl := wy_len (k := k + 1) hl hT hB hg
            have wl2 := pow60 hg hg2 m4
            rw [ew] at q wl
            obtain ⟨lo, elo⟩ : ∃ lo, max l (upF Bb T) = lo := ⟨_, rfl⟩
            obtain ⟨hi, ehi⟩ : ∃ hi, min g (((k + 1 : Nat) : Int) * Bb / T) = hi := ⟨_, rfl⟩
            rw [elo, ehi] at q wl
            rw [elo] at e1
            rw [ehi] at e2
            have lo1 : 1 ≤ lo := by omega
            have lo2 : upF Bb T ≤ lo := by omega
            have hi1 : hi ≤ 60 := by omega
            refine ⟨_, _, rfl, ⟨by rw [e1]; omega, by rw [e1]; omega, by rw [e2]; omega, by rw [e2]; omega⟩, ?_⟩
            rw [e1, e2]
            refine for_range (lo := lo) (n := (hi + 1 - lo).toNat) (fun i σ H' => SameB F H1 H' ∧ ∃ (ps : List Addr) (v5 v6 : Option V), σ = [some (.ref a), some (.int ((k + 1 : Nat) : Int)), some (.int l), some (.int g), some (.ref F), v5, v6] ∧ H' F = some (.lst (ps.map V.ref)) ∧
              Rws H1 H' ps (((span lo hi).take i).flatMap fun s => (Wy k (low (T * s - 1 * Bb) (Bb * s)).1 (low (T * s - 1 * Bb) (Bb * s)).2 (s + 1) g).map (s :: ·))) ⟨SameB.refl _, [], none, none, rfl, eF, Rws.nil⟩ ?_ ?_
            · rintro i σ H2 hi2 ⟨s2, ps, v5, v6, rfl, eF2, r2⟩
              have sg := span_get (lo := lo) (hi := hi) hi2
              obtain ⟨s, es⟩ : ∃ s : Int, lo + (i : Int) = s := ⟨_, rfl⟩
              rw [es] at sg ⊢
              have s1 : lo ≤ s ∧ s ≤ hi := mem_span.mp (List.mem_of_getElem? sg)
              have tl1 := take_flat_len (fun s => (Wy k (low (T * s - 1 * Bb) (Bb * s)).1 (low (T * s - 1 * Bb) (Bb * s)).2 (s + 1) g).map (s :: ·)) (span lo hi) (i + 1)
              rw [take_snoc sg, flatMap_snoc, List.length_append, List.length_map] at tl1
              have sB : 1 ≤ Bb * s := Int.mul_pos (by omega) (by omega)
              have up : upF Bb T * T ≤ s * T := Int.mul_le_mul_of_nonneg_right (by omega) (by omega)
              have up2 : s * T = T * s := Int.mul_comm s T
              have z6 : Sz 6 s := by
                show s.natAbs < 64
                omega
              have hS2 := same_tup (SameB.same sF nF s2) hS
              refine ⟨_, rfl, _, rfl, by show 2 ≤ sizeLine; decide, fun o no => ?_⟩
              have s3 := same_new (o := .tup [.int 1, .int s]) no
              refine ⟨a, o, T, Bb, 1, s, rfl, same_tup s3 hS2, SqT.of upd_same, zT.mono, zB40.mono, Sz.one, z6.mono, fun z => absurd z (by omega), fun _ _ _ _ z => absurd z (by omega), fun _ _ _ _ ge H3 r s4 nr er => ?_⟩
              have nn : 0 ≤ T * s - 1 * Bb := by omega
              have lB := low_bpos (t := T * s - 1 * Bb) sB
              have lBle := low_ble (t := T * s - 1 * Bb) sB
              have lT := low_tnn (t := T * s - 1 * Bb) sB nn
              have lc := low_cross (T * s - 1 * Bb) (Bb * s)
              have tb : (low (T * s - 1 * Bb) (Bb * s)).1 ≤ (low (T * s - 1 * Bb) (Bb * s)).2 := by
                refine Int.le_of_mul_le_mul_right (a := Bb * s) ?_ (by omega)
                rw [← lc, Int.mul_comm _ (Bb * s)]
                refine Int.mul_le_mul_of_nonneg_right ?_ (by omega)
                have : T * s ≤ Bb * s := Int.mul_le_mul_of_nonneg_right hTB (by omega)
                omega
              have zB3 : Sz (38 - 6 * k) (low (T * s - 1 * Bb) (Bb * s)).2 := (((zB.mul z6).mono (by omega)) : Sz (38 - 6 * k) (Bb * s)).le (by omega) lBle
              generalize eT' : (low (T * s - 1 * Bb) (Bb * s)).1 = T' at *
              generalize eB' : (low (T * s - 1 * Bb) (Bb * s)).2 = B' at *
              have s34 := s3.trans s4
              have wk := wy_len (k := k) (l := s + 1) (by omega) lT lB hg
              refine ⟨_, rfl, _, _, rfl, rfl, _, rfl, _, _, rfl, rfl, _, rfl, r, T', B', s + 1, g, ways_arg (by omega), SqT.of er, by omega, lT, lB, tb, zB3, by omega, by omega, hg, hg2, fun H4 Tl qs s5 nT eT rT nTq => ?_⟩
              have eF3 := s34 _ _ eF2
              have eF4 := s5 _ _ eF3
              have s14 : SameB F H1 H4 := s2.trans (SameB.of (s34.trans s5))
              have rT1 : Rws H1 H4 qs (Wy k T' B' (s + 1) g) := rT.baseB (s2.trans (SameB.of s34)) eF3
              have TF : Tl ≠ F := fun z => by
                rw [z, eF3] at nT
                cases nT
              have r4 := r2.same (s34.trans s5)
              have Fq : F ∉ qs := rT1.not eF
              refine ⟨Tl, rfl, ⟨_, SqL.of eT⟩, for_list (K := K) (a := Tl) (xs := qs.map V.ref) (fun j σ H' => SameB F H4 H' ∧ ∃ (ds : List Addr) (v6 : Option V), σ = [some (.ref a), some (.int ((k + 1 : Nat) : Int)), some (.int l), some (.int g), some (.ref F), some (.int s), v6] ∧ H' F = some (.lst ((ps ++ ds).map V.ref)) ∧
                Rws H1 H' ds (((Wy k T' B' (s + 1) g).take j).map (s :: ·))) ⟨SameB.refl _, [], v6, rfl, by rw [List.append_nil]; exact eF4, Rws.nil⟩ (fun j σ H' _ h => SqL.of (h.1 _ _ TF eT)) ?_ ?_⟩
              · rintro j y σ H5 hy ⟨s6, ds, v6, rfl, eF5, r5⟩
                obtain ⟨p, ep, rfl⟩ := of_get_map hy
                obtain ⟨t, et, _, pt⟩ := rT1.get ep
                have pF : p ≠ F := fun z => Fq (z ▸ List.mem_of_getElem? ep)
                have pt5 := s6 _ _ pF pt
                have tl : t.length = k := (rw_mem (wy_mem (by omega) lT lB (List.mem_of_getElem? et)).1).1
                have dl : ds.length = ((Wy k T' B' (s + 1) g).take j).length := by rw [r5.len, List.length_map]
                have dl2 : ((Wy k T' B' (s + 1) g).take j).length ≤ (Wy k T' B' (s + 1) g).length := by
                  rw [List.length_take]
                  exact Nat.min_le_right _ _
                refine ⟨_, rfl, .inl ⟨rfl, _, SqL.of eF5⟩, _, rfl, by show 1 ≤ sizeLine; decide, fun c nc => ⟨_, rfl, c, p, _, _, rfl, rfl, upd_same, same_new nc _ _ pt5, by rw [List.length_map, tl]; exact szl (by show 1 + k ≤ _; omega), fun d nd => ?_⟩⟩
                have s7 := (same_new (o := .lst [.int s]) nc).trans (same_new (o := .lst ([V.int s] ++ t.map V.int)) nd)
                have ed : (upd (upd H5 c (.lst [.int s])) d (.lst ([V.int s] ++ t.map V.int))) d = some (.lst ((s :: t).map V.int)) := upd_same
                have nd5 : H5 d = none := (same_new nc).free nd
                generalize (upd (upd H5 c (.lst [.int s])) d (.lst ([V.int s] ++ t.map V.int))) = H6 at s7 ed
                have eF6 := s7 _ _ eF5
                refine ⟨F, _, _, rfl, rfl, eF6, ?_, ?_⟩
                · rw [List.length_map, List.length_append, dl, r2.len]
                  exact szl_lt (by omega)
                · have dF : d ≠ F := fun z => by
                    rw [z, eF5] at nd5
                    cases nd5
                  have b7 : SameB F H5 (upd H6 F (.lst ((ps ++ ds).map V.ref ++ [.ref d]))) := (SameB.of s7).trans SameB.put
                  refine ⟨s6.trans b7, ds ++ [d], _, rfl, ?_, ?_⟩
                  · rw [upd_same, ← List.append_assoc ps, List.map_append (l₁ := ps ++ ds)] <;> rfl
                  · rw [take_snoc et, List.map_append (f := fun x => s :: x)]
                    refine (r5.sameB b7 (r5.not eF)).append (Rws.one ((s14.trans s6).free dF nd5) ?_)
                    rw [upd_ne dF]
                    exact ed
              · rintro σ H5 ⟨s6, ds, v6, rfl, eF5, r5⟩
                rw [List.length_map, rT1.len, List.take_length] at r5
                refine ⟨s14.trans s6, ps ++ ds, _, _, rfl, eF5, ?_⟩
                rw [take_snoc sg, flatMap_snoc, eT', eB']
                exact (r4.sameB s6 (r4.not eF)).append r5
            · rintro σ H2 ⟨s2, ps, v5, v6, rfl, eF2, r2⟩
              rw [← span_len, List.take_length] at r2
              exact ⟨_, rfl, q H2 F ps (SameB.same sF nF s2) nF eF2 (r2.base sF) (r2.not eF)⟩
  refine ⟨f, fd, ⟨fun vs H Q E h => ?_, fun A outer s H args us vs Q E hr e0 hb r h => ?_⟩, fb, mF, F.kp⟩
  · obtain ⟨m, _, h⟩ := h
    exact (all (m + 1)).len vs H Q E h
  · obtain ⟨m, hm, h⟩ := h
    exact ((all (m + 1)).mono (by omega : m + 1 + 4 ≤ 9)).run A outer s H args us vs Q E hr e0 hb r h

abbrev s_all_ways : Stmt := topS 25
abbrev N_all_ways : List Str := ["fraction", "most", "greatest", "found", "many"]
theorem sc_all_ways : FnScope N_all_ways ["fraction", "most", "greatest"] (defScope s_all_ways) := ⟨rfl, rfl, rfl, by decide +kernel, rfl, by decide +kernel, by decide +kernel⟩
theorem allF_len {T B g : Int} (hT : 0 ≤ T) (hB : 1 ≤ B) (hg : 0 ≤ g) (hg2 : g ≤ 60) {m : Nat} (hm : m ≤ 4) : (allF T B g m).length ≤ 13179660 := by
  have p : ∀ k, g.toNat ^ k ≤ 60 ^ k := fun k => Nat.pow_le_pow_left (by omega) k
  have w : ∀ k, (Wy k T B 1 g).length ≤ 60 ^ k := fun k => Nat.le_trans (wy_len (Int.le_refl 1) hT hB hg) (p k)
  have a0 : (allF T B g 0).length ≤ 0 := Nat.le_refl 0
  have a1 : (allF T B g 1).length ≤ 60 := by
    rw [allF_snoc, List.length_append]
    show (allF T B g 0).length + (Wy 1 T B 1 g).length ≤ 60
    have := w 1
    omega
  have a2 : (allF T B g 2).length ≤ 3660 := by
    rw [allF_snoc, List.length_append]
    show (allF T B g 1).length + (Wy 2 T B 1 g).length ≤ 3660
    have := w 2
    omega
  have a3 : (allF T B g 3).length ≤ 219660 := by
    rw [allF_snoc, List.length_append]
    show (allF T B g 2).length + (Wy 3 T B 1 g).length ≤ 219660
    have := w 3
    omega
  have a4 : (allF T B g 4).length ≤ 13179660 := by
    rw [allF_snoc, List.length_append]
    show (allF T B g 3).length + (Wy 4 T B 1 g).length ≤ 13179660
    have := w 4
    omega
  obtain rfl | rfl | rfl | rfl | rfl : m = 0 ∨ m = 1 ∨ m = 2 ∨ m = 3 ∨ m = 4 := by omega
  · exact Nat.le_trans a0 (by decide)
  · exact Nat.le_trans a1 (by decide)
  · exact Nat.le_trans a2 (by decide)
  · exact Nat.le_trans a3 (by decide)
  · exact a4
def sp_all_ways (K : PySem.W.Frag) (e : ErrA) : Sp := fun vs H Q E => ∃ (a : Addr) (t b : Int) (m : Nat) (g : Int), vs = [.ref a, .int (m : Int), .int g] ∧ SqT K H a [.int t, .int b] ∧ b ≤ 10000 ∧ m ≤ 4 ∧ 0 ≤ g ∧ g ≤ 60 ∧ ((t < 0 ∨ b < 1) → E (.ref e.NoFraction) none H) ∧
  (0 ≤ t → 1 ≤ b → (t < 1 ∨ b ≤ t) → E (.ref e.NotBelow) none H) ∧
  (1 ≤ t → t < b → ∀ H' p ps, Same H H' → H p = none → H' p = some (.lst (ps.map V.ref)) → Rws H H' ps (allF (low t b).1 (low t b).2 g m) → p ∉ ps → Q (.ref p) H')
theorem ok_all_ways (D : Stands K mg "all_ways" s_all_ways) (B : Bi mg) (Er : ErrOk K mg e)
    (h_see_below : Keeps P w K mg base 2 "see_below" ["fraction"] (sp_see_below K e))
    (h_ways_of : Keeps P w K mg base 9 "ways_of" ["left", "many", "least", "greatest"] (sp_ways_of K e))
    (h_lowest : Keeps P w K mg base 2 "lowest" ["fraction"] (sp_lowest K e)) : Keeps P w K mg base 10 "all_ways" ["fraction", "most", "greatest"] (sp_all_ways K e) := by
  obtain ⟨f, fd, F, mF⟩ := D
  obtain ⟨f_see_below, fd_see_below, G_see_below, b_see_below, m_see_below, k_see_below⟩ := h_see_below
  obtain ⟨f_ways_of, fd_ways_of, G_ways_of, b_ways_of, m_ways_of, k_ways_of⟩ := h_ways_of
  obtain ⟨f_lowest, fd_lowest, G_lowest, b_lowest, m_lowest, k_lowest⟩ := h_lowest
  refine ⟨f, fd, ?_, F.binds (ps := ["fraction", "most", "greatest"]) (fun _ _ _ _ _ _ us hl => match us, hl with | [_, _, _], _ => rfl), mF, F.kp⟩
  refine F.okX sc_all_ways (fun vs H Q E h => ?_) (fun cdv A outer s H vs Q E hr h => ?_)
  · obtain ⟨a, t, b, m, g, rfl, hS, hb0, m4, hg, hg2, kE, kB, q⟩ := h
    rfl
  · obtain ⟨a, t, b, m, g, rfl, hS, hb0, m4, hg, hg2, kE, kB, q⟩ := h
    refine ⟨_, (pss_cons (ps_expr (pe_call G_see_below (hr.mono (by decide)) (by rfl) m_see_below k_see_below b_see_below .nil (passes_call (E := E) (takes_of rfl rfl rfl rfl) (fun _ _ _ _ h => h)) (pa_cons (pv 0) pa_nil)))
      (pss_cons (ps_set (i := 3) sc_all_ways.nd rfl (Or.inl rfl) (pe_lst pa_nil))
      (pss_cons (ps_for (passes_of rfl) rfl (pi_range2 (by rfl) B.range (pa_cons pe_int (pa_cons (pe_op op_add (pv 1) pe_int) pa_nil))) (pg_name (i := 4) sc_all_ways.nd rfl (Or.inl rfl)) (pss_one (ps_expr (pe_bm PySem.F.plainAttrs_list PySem.F.slot_list_extend PySem.F.type_list_extend mt_extend (pv 3) (pa_cons (pe_call G_ways_of (hr.mono (by decide)) (by rfl) m_ways_of k_ways_of b_ways_of .nil (passes_call (E := E) (takes_of rfl rfl rfl rfl) (fun _ _ _ _ h => h)) (pa_cons (pe_call G_lowest (hr.mono (by decide)) (by rfl) m_lowest k_lowest b_lowest .nil (passes_call (E := E) (takes_of rfl rfl rfl rfl) (fun _ _ _ _ h => h)) (pa_cons (pv 0) pa_nil)) (pa_cons (pv 4) (pa_cons pe_int (pa_cons (pv 2) pa_nil))))) pa_nil)))))
      (pss_one (ps_ret (pv 3)))))), ?_⟩
    refine ⟨_, rfl, a, t, b, rfl, hS, kE, kB, fun g1 g2 => ?_⟩
    have q := q g1 g2
    have hz : Sz 14 b := by
      show b.natAbs < 16384
      omega
    have l1 := low_bpos (t := t) (by omega : 1 ≤ b)
    have l2 := low_tnn (t := t) (by omega : 1 ≤ b) (by omega)
    have l3 := low_ble (t := t) (by omega : 1 ≤ b)
    have l4 : (low t b).1 ≤ (low t b).2 := by
      refine Int.le_of_mul_le_mul_right (a := b) ?_ (by omega)
      rw [← low_cross, Int.mul_comm _ b]
      exact Int.mul_le_mul_of_nonneg_right (by omega) (by omega)
    have zB : Sz 14 (low t b).2 := hz.le (by omega) l3
    refine ⟨Nat.zero_le _, fun F nF => ?_⟩
    have sF := same_new (o := .lst []) nF
    have eF : (upd H F (.lst [])) F = some (.lst []) := upd_same
    dsimp only
    generalize (upd H F (.lst [])) = H1 at sF eF
    refine ⟨_, rfl, _, _, rfl, rfl, _, _, rfl, ⟨by omega, by omega, by omega, by omega⟩, ?_⟩
    have en : ((m : Int) + 1 - 1).toNat = m := by omega
    rw [en]
    refine for_range (lo := 1) (n := m) (fun i σ H' => SameB F H1 H' ∧ ∃ (ps : List Addr) (v4 : Option V), σ = [some (.ref a), some (.int (m : Int)), some (.int g), some (.ref F), v4] ∧ H' F = some (.lst (ps.map V.ref)) ∧ Rws H1 H' ps (allF (low t b).1 (low t b).2 g i)) ⟨SameB.refl _, [], none, rfl, eF, Rws.nil⟩ ?_ ?_
    · rintro i σ H2 hi ⟨s2, ps, v4, rfl, eF2, r2⟩
      have hS2 := same_tup (SameB.same sF nF s2) hS
      refine ⟨_, rfl, .inl ⟨rfl, _, SqL.of eF2⟩, _, rfl, a, t, b, rfl, hS2, hz.mono, fun z => absurd z (by omega), fun _ H3 r s3 nr er => ?_⟩
      refine ⟨_, rfl, _, rfl, i + 1, by omega, r, (low t b).1, (low t b).2, 1, g, ways_arg (by omega), SqT.of er, by omega, l2, l1, l4, zB.mono (by omega), by decide, by decide, hg, hg2, fun H4 Tl qs s4 nT eT rT nTq => ?_⟩
      have eF3 := s3 _ _ eF2
      have eF4 := s4 _ _ eF3
      have rT1 := rT.baseB (s2.trans (SameB.of s3)) eF3
      have r4 := r2.same (s3.trans s4)
      have al := allF_len (T := (low t b).1) (B := (low t b).2) (g := g) l2 l1 hg hg2 (m := i + 1) (by omega)
      rw [allF_snoc, List.length_append] at al
      refine ⟨F, Tl, _, _, rfl, rfl, eF4, eT, ?_, ?_⟩
      · rw [List.length_map, List.length_map, r2.len, rT.len]
        exact szl (by omega)
      · have sb : SameB F H4 (upd H4 F (.lst (ps.map V.ref ++ qs.map V.ref))) := SameB.put
        refine ⟨(s2.trans (SameB.of (s3.trans s4))).trans sb, ps ++ qs, _, rfl, ?_, ?_⟩
        · rw [upd_same, List.map_append]
        · rw [allF_snoc]
          exact (r4.append rT1).sameB sb ((r4.append rT1).not eF)
    · rintro σ H2 ⟨s2, ps, v4, rfl, eF2, r2⟩
      exact ⟨_, rfl, q H2 F ps (SameB.same sF nF s2) nF eF2 (r2.base sF) (r2.not eF)⟩

abbrev s_fewest : Stmt := topS 26
abbrev N_fewest : List Str := ["fraction", "greatest", "many", "found"]
theorem sc_fewest : FnScope N_fewest ["fraction", "greatest"] (defScope s_fewest) := ⟨rfl, rfl, rfl, by decide +kernel, rfl, by decide +kernel, by decide +kernel⟩
theorem allF_pre (T B g : Int) : ∀ {i m : Nat}, i ≤ m → ∃ rest, allF T B g m = allF T B g i ++ rest := fun {i m} h => by
  obtain ⟨d, rfl⟩ : ∃ d, m = i + d := ⟨m - i, by omega⟩
  induction d with
  | zero => exact ⟨[], by simp⟩
  | succ d ih =>
    obtain ⟨r, e⟩ := ih (by omega)
    exact ⟨r ++ Wy (i + d + 1) T B 1 g, by rw [show i + (d + 1) = (i + d) + 1 by omega, allF_snoc, e, List.append_assoc]⟩
def sp_fewest (K : PySem.W.Frag) (e : ErrA) : Sp := fun vs H Q E => ∃ (a : Addr) (t b g : Int), vs = [.ref a, .int g] ∧ SqT K H a [.int t, .int b] ∧ b ≤ 10000 ∧ 0 ≤ g ∧ g ≤ 60 ∧ ((t < 0 ∨ b < 1) → E (.ref e.NoFraction) none H) ∧
  (0 ≤ t → 1 ≤ b → (t < 1 ∨ b ≤ t) → E (.ref e.NotBelow) none H) ∧
  (1 ≤ t → t < b → ∀ H', Same H H' → (allF (low t b).1 (low t b).2 g 4 = [] → Q .non H') ∧ (∀ r rest, allF (low t b).1 (low t b).2 g 4 = r :: rest → ∀ p, H p = none → H' p = some (.lst (r.map V.int)) → Q (.ref p) H'))
theorem ok_fewest (D : Stands K mg "fewest" s_fewest) (B : Bi mg) (Er : ErrOk K mg e)
    (h_see_below : Keeps P w K mg base 2 "see_below" ["fraction"] (sp_see_below K e))
    (h_ways_of : Keeps P w K mg base 9 "ways_of" ["left", "many", "least", "greatest"] (sp_ways_of K e))
    (h_lowest : Keeps P w K mg base 2 "lowest" ["fraction"] (sp_lowest K e)) : Keeps P w K mg base 10 "fewest" ["fraction", "greatest"] (sp_fewest K e) := by
  obtain ⟨f, fd, F, mF⟩ := D
  obtain ⟨f_see_below, fd_see_below, G_see_below, b_see_below, m_see_below, k_see_below⟩ := h_see_below
  obtain ⟨f_ways_of, fd_ways_of, G_ways_of, b_ways_of, m_ways_of, k_ways_of⟩ := h_ways_of
  obtain ⟨f_lowest, fd_lowest, G_lowest, b_lowest, m_lowest, k_lowest⟩ := h_lowest
  refine ⟨f, fd, ?_, F.binds (ps := ["fraction", "greatest"]) (fun _ _ _ _ _ _ us hl => match us, hl with | [_, _], _ => rfl), mF, F.kp⟩
  refine F.okX sc_fewest (fun vs H Q E h => ?_) (fun cdv A outer s H vs Q E hr h => ?_)
  · obtain ⟨a, t, b, g, rfl, hS, hb0, hg, hg2, kE, kB, q⟩ := h
    rfl
  · obtain ⟨a, t, b, g, rfl, hS, hb0, hg, hg2, kE, kB, q⟩ := h
    refine ⟨_, (pss_cons (ps_expr (pe_call G_see_below (hr.mono (by decide)) (by rfl) m_see_below k_see_below b_see_below .nil (passes_call (E := E) (takes_of rfl rfl rfl rfl) (fun _ _ _ _ h => h)) (pa_cons (pv 0) pa_nil)))
      (pss_cons (ps_for (passes_of rfl) rfl (pi_range2 (by rfl) B.range (pa_cons pe_int (pa_cons pe_int pa_nil))) (pg_name (i := 2) sc_fewest.nd rfl (Or.inl rfl)) (pss_cons (ps_set (i := 3) sc_fewest.nd rfl (Or.inl rfl) (pe_call G_ways_of (hr.mono (by decide)) (by rfl) m_ways_of k_ways_of b_ways_of .nil (passes_call (E := E) (takes_of rfl rfl rfl rfl) (fun _ _ _ _ h => h)) (pa_cons (pe_call G_lowest (hr.mono (by decide)) (by rfl) m_lowest k_lowest b_lowest .nil (passes_call (E := E) (takes_of rfl rfl rfl rfl) (fun _ _ _ _ h => h)) (pa_cons (pv 0) pa_nil)) (pa_cons (pv 2) (pa_cons pe_int (pa_cons (pv 1) pa_nil))))))
      (pss_one (ps_if (pt_truth (pv 3) (by intro _; rfl)) (pss_one (ps_ret (pe_ix ix_list (pv 3) pe_int (fun _ _ => rfl)))) pss_nil))))
      (pss_one (ps_ret pe_non)))), ?_⟩
    refine ⟨_, rfl, a, t, b, rfl, hS, kE, kB, fun g1 g2 => ?_⟩
    have q := q g1 g2
    have hz : Sz 14 b := by
      show b.natAbs < 16384
      omega
    have l1 := low_bpos (t := t) (by omega : 1 ≤ b)
    have l2 := low_tnn (t := t) (by omega : 1 ≤ b) (by omega)
    have l3 := low_ble (t := t) (by omega : 1 ≤ b)
    have l4 : (low t b).1 ≤ (low t b).2 := by
      refine Int.le_of_mul_le_mul_right (a := b) ?_ (by omega)
      rw [← low_cross, Int.mul_comm _ b]
      exact Int.mul_le_mul_of_nonneg_right (by omega) (by omega)
    have zB : Sz 14 (low t b).2 := hz.le (by omega) l3
    refine ⟨_, _, rfl, ⟨by decide, by decide, by decide, by decide⟩, ?_⟩
    refine for_range (lo := 1) (n := 4) (fun i σ H' => Same H H' ∧ (∃ v2 v3 : Option V, σ = [some (.ref a), some (.int g), v2, v3]) ∧ allF (low t b).1 (low t b).2 g i = []) ⟨Same.refl _, ⟨none, none, rfl⟩, rfl⟩ ?_ ?_
    · rintro i σ H2 hi ⟨s2, ⟨v2, v3, rfl⟩, none⟩
      refine ⟨_, rfl, a, t, b, rfl, same_tup s2 hS, hz.mono, fun z => absurd z (by omega), fun _ H3 r s3 nr er => ?_⟩
      refine ⟨_, rfl, _, rfl, i + 1, by omega, r, (low t b).1, (low t b).2, 1, g, ways_arg (by omega), SqT.of er, by omega, l2, l1, l4, zB.mono (by omega), by decide, by decide, hg, hg2, fun H4 Tl qs s4 nT eT rT nTq => ?_⟩
      have s24 := s2.trans (s3.trans s4)
      have ea := allF_snoc (low t b).1 (low t b).2 g i
      rw [none, List.nil_append] at ea
      cases qs with
      | nil =>
        have ew : Wy (i + 1) (low t b).1 (low t b).2 1 g = [] := List.length_eq_zero_iff.mp rT.len.symm
        refine ⟨_, rfl, false, .inl ⟨_, SqL.of eT, rfl⟩, ?_⟩
        refine iteF ⟨s24, ⟨_, _, rfl⟩, by rw [ea, ew]⟩
      | cons p qs =>
        obtain ⟨w, ew, np, ep⟩ := rT.get (i := 0) (p := p) rfl
        refine ⟨_, rfl, true, .inl ⟨_, SqL.of eT, rfl⟩, iteT ?_⟩
        refine ⟨_, rfl, Tl, _, 0, _, rfl, rfl, SqL.of eT, atI_nat (j := 0) rfl, ?_⟩
        obtain ⟨rest, er2⟩ := allF_pre (low t b).1 (low t b).2 g (i := i + 1) (m := 4) (by omega)
        have hd : ∃ r2, allF (low t b).1 (low t b).2 g 4 = w :: r2 := by
          rw [er2, ea]
          cases hw : Wy (i + 1) (low t b).1 (low t b).2 1 g with
          | nil =>
            rw [hw] at ew
            cases ew
          | cons x xs =>
            rw [hw] at ew
            cases ew
            exact ⟨_, rfl⟩
        obtain ⟨r2, hd⟩ := hd
        exact (q H4 s24).2 w r2 hd p ((s2.trans s3).free np) ep
    · rintro σ H2 ⟨s2, ⟨v2, v3, rfl⟩, none⟩
      exact (q H2 s2).1 none

abbrev s_divisors : Stmt := topS 28
abbrev N_divisors : List Str := ["number", "k"]
theorem sc_divisors : FnScope N_divisors ["number"] (defScope s_divisors) := ⟨rfl, rfl, rfl, by decide +kernel, rfl, by decide +kernel, by decide +kernel⟩
def sp_divisors (K : PySem.W.Frag) (_ : ErrA) : Sp := fun vs H Q _ => ∃ n : Nat, vs = [.int n] ∧ 1 ≤ n ∧ n ≤ 1000000 ∧ ∀ H' p, Same H H' → H p = none → H' p = some (.lst ((divs n).map V.int)) → Q (.ref p) H'
theorem ok_divisors (D : Stands K mg "divisors" s_divisors) (B : Bi mg) (Er : ErrOk K mg e) : Keeps P w K mg base 1 "divisors" ["number"] (sp_divisors K e) := by
  obtain ⟨f, fd, F, mF⟩ := D
  refine ⟨f, fd, ?_, F.binds (ps := ["number"]) (fun _ _ _ _ _ _ us hl => match us, hl with | [_], _ => rfl), mF, F.kp⟩
  refine toX (F.ok sc_divisors (fun vs H Q E h => ?_) (fun cdv A outer s H vs Q E hr h => ?_))
  · obtain ⟨n, rfl, h1, h2, q⟩ := h
    rfl
  · obtain ⟨n, rfl, h1, h2, q⟩ := h
    refine ⟨_, (pss_one (ps_ret (pe_lc (own := [("k", 1)]) (g := gName 1) (tt := _) (by rfl) sc_divisors.nd (pi_range2 (by rfl) B.range (pa_cons pe_int (pa_cons (pe_op op_add (pv 0) pe_int) pa_nil))) (blkOk_by (N := N_divisors) (sc := defScope s_divisors) (by decide +kernel)) (fun _ _ _ _ _ => pg_name (i := 1) sc_divisors.nd rfl (Or.inl rfl)) (fun _ _ _ _ _ => (pts_one (pt_cmpR op_eq (pe_op op_mod (pv 0) (pv 1)) pe_int (nomark _)))) (fun _ _ _ _ _ => (pv 1))))), ?_⟩
    refine ⟨_, rfl, _, _, rfl, rfl, _, _, rfl, ⟨by omega, by omega, by omega, by omega⟩, fun D hD => ?_⟩
    refine lc_range (lo := 1) (n := _) (fun i H' => Same H H' ∧ H' D = some (.lst (((upto i).filter fun k => decide ((n : Int) % k = 0)).map V.int))) ⟨same_new hD, upd_same⟩ ?_ ?_
    · rintro i H' hi ⟨hs, he⟩
      refine ⟨rfl, _, rfl, _, rfl, _, _, rfl, rfl, by omega, rfl, _, rfl, ite2 (fun c => ?_) (fun c => ?_)⟩
      · have c := V.int.inj (of_decide_eq_true c)
        refine ⟨_, rfl, _, he, ?_, same_mut hs hD, ?_⟩
        · rw [List.length_map]
          refine szl_lt (Nat.lt_of_le_of_lt (List.length_filter_le _ _) ?_)
          rw [upto_length]
          omega
        · rw [upd_same, upto_succ, fil_yes, List.map_append]
          · exact rfl
          · exact c
      · refine ⟨hs, ?_⟩
        rw [he, upto_succ, fil_no]
        exact fun z => c (decide_eq_true (congrArg V.int z))
    · rintro H' ⟨hs, he⟩
      refine q H' D hs hD ?_
      rw [he]
      have e : ((n : Int) + 1 - 1).toNat = n := by omega
      rw [e] <;> rfl

abbrev s_sums_of : Stmt := topS 29
abbrev N_sums_of : List Str := ["row", "found", "number", "more", "total"]
theorem sc_sums_of : FnScope N_sums_of ["row"] (defScope s_sums_of) := ⟨rfl, rfl, rfl, by decide +kernel, rfl, by decide +kernel, by decide +kernel⟩
def sp_sums_of (K : PySem.W.Frag) (_ : ErrA) : Sp := fun vs H Q _ => ∃ (a : Addr) (row : List Int), vs = [.ref a] ∧ SqL K H a (row.map V.int) ∧ Row 1000 row ∧ row.length ≤ 1000 ∧
  ∀ H' p ds, Same H H' → H p = none → TabsAt H' p (tabs (fun _ => true) row) row.length ds → Q (.ref p) H'
theorem ok_sums_of (D : Stands K mg "sums_of" s_sums_of) (B : Bi mg) (Er : ErrOk K mg e) : Keeps P w K mg base 1 "sums_of" ["row"] (sp_sums_of K e) := by
  obtain ⟨f, fd, F, mF⟩ := D
  refine ⟨f, fd, ?_, F.binds (ps := ["row"]) (fun _ _ _ _ _ _ us hl => match us, hl with | [_], _ => rfl), mF, F.kp⟩
  refine toX (F.ok sc_sums_of (fun vs H Q E h => ?_) (fun cdv A outer s H vs Q E hr h => ?_))
  · obtain ⟨a, row, rfl, hS, hr0, hl, q⟩ := h
    rfl
  · obtain ⟨a, row, rfl, hS, hr0, hl, q⟩ := h
    refine ⟨_, (pss_cons (ps_set (i := 1) sc_sums_of.nd rfl (Or.inl rfl) (pe_lst (pa_cons (pe_disp (pps_cons pe_int pe_bl pps_nil) (by rfl) (by rfl) (fun z => by cases z) (by decide)) pa_nil)))
      (pss_cons (ps_for PassesOwn.never rfl (pi_list (pv 0)) (pg_name (i := 2) sc_sums_of.nd rfl (Or.inl rfl)) (pss_cons (ps_set (i := 3) sc_sums_of.nd rfl (Or.inl rfl) (pe_callTy call_dictD (by rfl) B.dict (by decide +kernel) (pa_cons (pe_ix ix_list (pv 1) (pe_un un_neg pe_int) (fun _ _ => rfl)) pa_nil)))
      (pss_cons (ps_for PassesOwn.never rfl (pi_list (pe_callTy (call_listD rfl) (by rfl) B.list (by decide +kernel) (pa_cons (pe_ix ix_list (pv 1) (pe_un un_neg pe_int) (fun _ _ => rfl)) pa_nil))) (pg_name (i := 4) sc_sums_of.nd rfl (Or.inl rfl)) (pss_one (ps_dput (hu_of hr) (pv 3) (pe_op op_add (pv 4) (pv 2)) pe_bl rfl)))
      (pss_one (ps_expr (pe_bm PySem.F.plainAttrs_list PySem.F.slot_list_append PySem.F.type_list_append mt_append (pv 1) (pa_cons (pv 3) pa_nil)))))))
      (pss_one (ps_ret (pv 1))))), ?_⟩
    refine fun d0 nd0 => ⟨upd_same, [(Sum.inl 0, .bl true)], rfl, by decide, by show 1 ≤ sizeLine; decide, fun F nF => ?_⟩
    have s0 : Same H (upd (upd (upd H d0 (.dK [])) d0 (.dK (mergeK [] [(Sum.inl 0, .bl true)]))) F (.lst [.ref d0])) := same_mut (same_mut (same_new nd0) nd0) ((same_mut (same_new nd0) nd0).free nF)
    have hF : H F = none := (same_mut (same_new (o := .dK []) nd0) nd0 (o := .dK (mergeK [] [(Sum.inl 0, .bl true)]))).free nF
    have t0 : TabsAt (upd (upd (upd H d0 (.dK [])) d0 (.dK (mergeK [] [(Sum.inl 0, .bl true)]))) F (.lst [.ref d0])) F (tabs (fun _ => true) row) 0 [d0] := ⟨upd_same, rfl, fun j d e => by
      have hj : j = 0 := by
        have := lt_of_get e
        exact Nat.lt_one_iff.mp this
      subst hj
      cases e
      rw [upd_ne (ne_of_none upd_same nF), upd_same] <;> rfl⟩
    generalize (upd (upd (upd H d0 (.dK [])) d0 (.dK (mergeK [] [(Sum.inl 0, .bl true)]))) F (.lst [.ref d0])) = H0 at s0 t0
    refine ⟨_, rfl, a, rfl, ⟨_, s0.seq hS⟩, for_list (K := K) (a := a) (xs := row.map V.int) (fun i σ H' => Same H H' ∧ ∃ (ds : List Addr) (v1 v2 v3 : Option V), σ = [some (.ref a), some (.ref F), v1, v2, v3] ∧ TabsAt H' F (tabs (fun _ => true) row) i ds)
      ⟨s0, [d0], none, none, none, rfl, t0⟩ (fun i σ H' _ h => h.1.seq hS) ?_ ?_⟩
    · rintro i y σ H1 hy ⟨s1, ds, v1, v2, v3, rfl, t1⟩
      obtain ⟨n, en, rfl⟩ := of_get_map hy
      have hi := lt_of_get en
      obtain ⟨d, e1, e2⟩ := t1.last
      refine ⟨_, rfl, _, rfl, F, _, _, _, rfl, rfl, SqL.of t1.lst, e1, d, _, rfl, .inl e2, fun M nM => ?_⟩
      have s2 : Same H1 (upd H1 M (.dK (kvI (tabs (fun _ => true) row i)))) := same_new nM
      have eM : (upd H1 M (.dK (kvI (tabs (fun _ => true) row i)))) M = some (.dK (kvI (tabs (fun _ => true) row i))) := upd_same
      generalize (upd H1 M (.dK (kvI (tabs (fun _ => true) row i)))) = H2 at s2 eM
      have t2 := t1.same s2
      refine ⟨_, rfl, _, rfl, F, _, _, _, rfl, rfl, SqL.of t2.lst, e1, d, _, rfl, .inl (s2 _ _ e2), fun L nL => ?_⟩
      rw [kvI_keys]
      have s3 : Same H2 (upd H2 L (.lst ((tabs (fun _ => true) row i).map V.int))) := same_new nL
      have eL : (upd H2 L (.lst ((tabs (fun _ => true) row i).map V.int))) L = some (.lst ((tabs (fun _ => true) row i).map V.int)) := upd_same
      have eM3 := s3 _ _ eM
      have s13 := s2.trans s3
      generalize (upd H2 L (.lst ((tabs (fun _ => true) row i).map V.int))) = H3 at eL eM3 s13
      have LM : L ≠ M := ne_of eL eM3 (fun z => by cases z)
      refine ⟨L, rfl, ⟨_, SqL.of eL⟩, for_list (K := K) (a := L) (xs := (tabs (fun _ => true) row i).map V.int) (fun j σ H' => Same H1 H' ∧ H' L = some (.lst ((tabs (fun _ => true) row i).map V.int)) ∧
        H' M = some (.dK (kvI (addP (fun _ => true) n (tabs (fun _ => true) row i) ((tabs (fun _ => true) row i).take j)))) ∧ ∃ v : Option V, σ = [some (.ref a), some (.ref F), some (.int n), some (.ref M), v])
        ⟨s13, eL, eM3, v3, rfl⟩ (fun j σ H' _ h => SqL.of h.2.1) ?_ ?_⟩
      · rintro j y σ H4 hy ⟨s4, eL4, eM4, v, rfl⟩
        obtain ⟨x, ex, rfl⟩ := of_get_map hy
        refine ⟨_, rfl, _, rfl, _, rfl, _, _, rfl, rfl, M, _, rfl, DPut.k (k := Sum.inl (x + n)) eM4 ?_, ?_⟩
        · rw [kvI_len]
          have := addP_len (p := fun _ => true) (n := n) (ks := tabs (fun _ => true) row i) ((tabs (fun _ => true) row i).take j)
          have h1 := tabs_len (p := fun _ => true) hr0 (k := i) (by omega)
          have h2 : ((tabs (fun _ => true) row i).take j).length ≤ (tabs (fun _ => true) row i).length := by
            rw [List.length_take]
            exact Nat.min_le_right _ _
          exact szl_lt (by omega)
        · refine ⟨same_mut s4 nM, ?_, ?_, _, rfl⟩
          · rw [upd_ne LM]
            exact eL4
          · rw [upd_same, put_kv, take_snoc ex, addP_snoc, if_pos rfl]
      · rintro σ H4 ⟨s4, eL4, eM4, v, rfl⟩
        rw [List.length_map, List.take_length, ← tabs_at en] at eM4
        have t4 := t1.same s4
        refine ⟨_, rfl, .inl ⟨rfl, _, SqL.of t4.lst⟩, _, rfl, F, _, _, rfl, rfl, t4.lst, by
          rw [List.length_map, t4.len]
          exact szl_lt (by omega), ?_⟩
        exact ⟨same_mut (s1.trans s4) hF, ds ++ [M], _, _, _, rfl, t4.push eM4⟩
    · rintro σ H1 ⟨s1, ds, v1, v2, v3, rfl, t1⟩
      rw [List.length_map] at t1
      exact ⟨_, rfl, q H1 F ds s1 hF t1⟩

abbrev s_parts : Stmt := topS 30
abbrev N_parts : List Str := ["number", "wanted", "row", "sums", "found", "k"]
theorem sc_parts : FnScope N_parts ["number", "wanted"] (defScope s_parts) := ⟨rfl, rfl, rfl, by decide +kernel, rfl, by decide +kernel, by decide +kernel⟩
def sp_parts (K : PySem.W.Frag) (_ : ErrA) : Sp := fun vs H Q _ => ∃ (n : Nat) (w : Int), vs = [.int n, .int w] ∧ 1 ≤ n ∧ n ≤ 1000 ∧ 0 ≤ w ∧
  ∀ H', Same H H' → match partsF n w with | none => Q .non H' | some l => ∀ p, H p = none → H' p = some (.lst (l.map V.int)) → Q (.ref p) H'
theorem ok_parts (D : Stands K mg "parts" s_parts) (B : Bi mg) (Er : ErrOk K mg e)
    (h_divisors : Keeps P w K mg base 1 "divisors" ["number"] (sp_divisors K e))
    (h_sums_of : Keeps P w K mg base 1 "sums_of" ["row"] (sp_sums_of K e)) : Keeps P w K mg base 2 "parts" ["number", "wanted"] (sp_parts K e) := by
  obtain ⟨f, fd, F, mF⟩ := D
  obtain ⟨f_divisors, fd_divisors, G_divisors, b_divisors, m_divisors, k_divisors⟩ := h_divisors
  obtain ⟨f_sums_of, fd_sums_of, G_sums_of, b_sums_of, m_sums_of, k_sums_of⟩ := h_sums_of
  refine ⟨f, fd, ?_, F.binds (ps := ["number", "wanted"]) (fun _ _ _ _ _ _ us hl => match us, hl with | [_, _], _ => rfl), mF, F.kp⟩
  refine toX (F.ok sc_parts (fun vs H Q E h => ?_) (fun cdv A outer s H vs Q E hr h => ?_))
  · obtain ⟨n, w, rfl, n1, n2, w0, q⟩ := h
    rfl
  · obtain ⟨n, w, rfl, n1, n2, w0, q⟩ := h
    refine ⟨_, (pss_cons (ps_set (i := 2) sc_parts.nd rfl (Or.inl rfl) (pe_call G_divisors (hr.mono (by decide)) (by rfl) m_divisors k_divisors b_divisors .nil passL (pa_cons (pv 0) pa_nil)))
      (pss_cons (ps_set (i := 3) sc_parts.nd rfl (Or.inl rfl) (pe_call G_sums_of (hr.mono (by decide)) (by rfl) m_sums_of k_sums_of b_sums_of .nil passL (pa_cons (pv 2) pa_nil)))
      (pss_cons (ps_if (pt_cmp (pc_dnotin (hu_of hr) (pv 1) (pe_ix ix_list (pv 3) (pe_un un_neg pe_int) (fun _ _ => rfl)))) (pss_one (ps_ret pe_non)) pss_nil)
      (pss_cons (ps_set (i := 4) sc_parts.nd rfl (Or.inl rfl) (pe_lst pa_nil))
      (pss_cons (ps_for PassesOwn.never rfl (pi_range3 (by rfl) B.range (pa_cons (pe_op op_sub (pe_callB call_len_seq (by rfl) B.len (by decide +kernel) (pa_cons (pv 2) pa_nil)) pe_int) (pa_cons (pe_un un_neg pe_int) (pa_cons (pe_un un_neg pe_int) pa_nil)))) (pg_name (i := 5) sc_parts.nd rfl (Or.inl rfl)) (pss_one (ps_if (PW.pt (pw_and (pt_cmpR op_ge (pv 1) (pe_ix ix_list (pv 2) (pv 5) (fun _ _ => rfl)) (nomark _)) (pw_and1 (pt_cmp (pc_din (hu_of hr) (pe_op op_sub (pv 1) (pe_ix ix_list (pv 2) (pv 5) (fun _ _ => rfl))) (pe_ix ix_list (pv 3) (pv 5) (fun _ _ => rfl))))))) (pss_cons (ps_expr (pe_bm PySem.F.plainAttrs_list PySem.F.slot_list_append PySem.F.type_list_append mt_append (pv 4) (pa_cons (pe_ix ix_list (pv 2) (pv 5) (fun _ _ => rfl)) pa_nil)))
      (pss_one (ps_set (i := 1) sc_parts.nd rfl (Or.inl rfl) (pe_op op_sub (pv 1) (pe_ix ix_list (pv 2) (pv 5) (fun _ _ => rfl)))))) pss_nil)))
      (pss_one (ps_ret (pv 4)))))))), ?_⟩
    have hl := divs_len n
    have hr0 : Row 1000 (divs n) := row_divs (by omega)
    refine ⟨_, rfl, n, rfl, n1, by omega, fun H1 r s1 nr er => ?_⟩
    refine ⟨_, rfl, r, divs n, rfl, SqL.of er, hr0, by omega, fun H2 F ds s2 nF tF => ?_⟩
    obtain ⟨d, e1, e2⟩ := tF.last
    have er2 := s2 _ _ er
    have s12 := s1.trans s2
    refine ⟨_, rfl, _, rfl, _, rfl, F, _, _, _, rfl, rfl, SqL.of tF.lst, e1, d, _, rfl, DGet.k (k := Sum.inl w) e2, _, rfl, ?_⟩
    rw [val_kv]
    by_cases c : w ∈ tabs (fun _ => true) (divs n) (divs n).length
    · rw [decide_eq_true c]
      refine iteF ?_
      refine ⟨Nat.zero_le _, fun G nG => ?_⟩
      have s3 := same_new (o := .lst []) nG
      have hG : H G = none := s12.free nG
      have er3 := s3 _ _ er2
      have tF3 := tF.same s3
      have eG3 : (upd H2 G (.lst [])) G = some (.lst []) := upd_same
      generalize (upd H2 G (.lst [])) = H3 at s3 er3 tF3 eG3
      have rG : r ≠ G := ne_of_none er2 nG
      have FG : F ≠ G := ne_of_none tF.lst nG
      refine ⟨_, rfl, r, _, rfl, .inl (SqL.of er3), _, _, rfl, rfl, _, rfl, _, rfl, _, _, _, _, rfl, RgC.neg (by rw [List.length_map]; omega) (by rw [List.length_map]; omega) (by decide) (by decide), ?_⟩
      have en : (((((divs n).map V.int).length : Nat) : Int) - 1 - -1).toNat = (divs n).length := by
        rw [List.length_map]
        omega
      rw [en]
      refine for_rangeC (n := (divs n).length) (fun i σ H' => Same H2 H' ∧ ∃ (u : Int) (acc : List Int) (v : Option V), σ = [some (.int n), some (.int u), some (.ref r), some (.ref F), some (.ref G), v] ∧ H' G = some (.lst (acc.map V.int)) ∧ acc.length ≤ i ∧
        acc ++ (gr (tabs (fun _ => true) (divs n)) (divs n) ((divs n).length - i) u).1 = (gr (tabs (fun _ => true) (divs n)) (divs n) (divs n).length w).1) ⟨s3, w, [], none, rfl, eG3, Nat.le_refl 0, rfl⟩ ?_ ?_
      · rintro i σ H4 hi ⟨s4, u, acc, v, rfl, eG4, al, eq⟩
        obtain ⟨j, ej⟩ : ∃ j, (divs n).length - i = j + 1 := ⟨(divs n).length - i - 1, by omega⟩
        have ej2 : (divs n).length - (i + 1) = j := by omega
        have hj : j < (divs n).length := by omega
        have ix : ((((divs n).map V.int).length : Nat) : Int) - 1 + (i : Nat) * -1 = (j : Int) := by
          rw [List.length_map]
          omega
        have g0 : (divs n)[j]? = some (divs n)[j] := List.getElem?_eq_getElem hj
        have g : ((divs n).map V.int)[j]? = some (.int (divs n)[j]) := get_map g0
        rw [ej] at eq
        rw [ej2]
        have er4 := s4 _ _ er2
        have tF4 := tF.same s4
        obtain ⟨dj, a1, a2⟩ := tF4.at (j := j) (by omega)
        generalize (divs n)[j] = x at g0 g
        refine ⟨_, rfl, _, rfl, _, rfl, r, _, _, _, rfl, rfl, SqL.of er4, at_of (j := j) ix g, _, _, rfl, rfl, _, rfl, ite2 (fun c1 => ?_) (fun c1 => ?_)⟩
        · have c1 : x ≤ u := of_decide_eq_true c1
          refine ⟨_, rfl, _, rfl, _, rfl, r, _, _, _, rfl, rfl, SqL.of er4, at_of (j := j) ix g, _, _, rfl, rfl, _, rfl, _, rfl, F, _, _, _, rfl, rfl, SqL.of tF4.lst, at_of (j := j) ix a1, dj, _, rfl, DGet.k (k := Sum.inl (u - x)) a2, _, rfl, ?_⟩
          rw [val_kv]
          refine ite2 (fun c2 => ?_) (fun c2 => ?_)
          · have c2 := of_decide_eq_true c2
            rw [gr_yes g0 ⟨c1, c2⟩] at eq
            refine ⟨_, rfl, .inl ⟨rfl, _, SqL.of eG4⟩, _, rfl, _, rfl, r, _, _, _, rfl, rfl, SqL.of er4, at_of (j := j) ix g, G, _, _, rfl, rfl, eG4, by
              rw [List.length_map]
              exact szl_lt (by omega), ?_⟩
            have s5 := same_mut (o := .lst (acc.map V.int ++ [.int x])) s4 nG
            refine ⟨_, rfl, _, rfl, _, rfl, r, _, _, _, rfl, rfl, SqL.of (s5 _ _ er2), at_of (j := j) ix g, _, _, rfl, rfl, s5, u - x, acc ++ [x], _, rfl, ?_, ?_, ?_⟩
            · rw [upd_same, List.map_append] <;> rfl
            · rw [List.length_append, List.length_singleton]
              omega
            · rw [List.append_assoc]
              exact eq
          · have c2 : ¬ u - x ∈ tabs (fun _ => true) (divs n) j := fun z => c2 (decide_eq_true z)
            rw [gr_not g0 (fun z => c2 z.2)] at eq
            exact ⟨s4, u, acc, _, rfl, eG4, by omega, eq⟩
        · have c1 : ¬ x ≤ u := fun z => c1 (decide_eq_true z)
          rw [gr_not g0 (fun z => c1 z.1)] at eq
          exact iteF ⟨s4, u, acc, _, rfl, eG4, by omega, eq⟩
      · rintro σ H4 ⟨s4, u, acc, v, rfl, eG4, al, eq⟩
        rw [Nat.sub_self] at eq
        have eq : acc ++ [] = _ := eq
        rw [List.append_nil] at eq
        have k := q H4 (s12.trans s4)
        rw [show partsF n w = _ from if_pos c] at k
        rw [eq] at eG4
        exact ⟨_, rfl, k G hG eG4⟩
    · rw [decide_eq_false c]
      refine iteT ?_
      have k := q H2 s12
      rw [show partsF n w = _ from if_neg c] at k
      exact k

abbrev s_goes_by : Stmt := topS 31
abbrev N_goes_by : List Str := ["fraction", "most", "told", "m", "found", "part"]
theorem sc_goes_by : FnScope N_goes_by ["fraction", "most"] (defScope s_goes_by) := ⟨rfl, rfl, rfl, by decide +kernel, rfl, by decide +kernel, by decide +kernel⟩
def sp_goes_by (K : PySem.W.Frag) (e : ErrA) : Sp := fun vs H Q E => ∃ (a : Addr) (t b mo : Int), vs = [.ref a, .int mo] ∧ SqT K H a [.int t, .int b] ∧ b ≤ 10000 ∧ 0 ≤ mo ∧ mo ≤ 100000 ∧ ((t < 0 ∨ b < 1) → E (.ref e.NoFraction) none H) ∧
  (0 ≤ t → 1 ≤ b → (t < 1 ∨ b ≤ t) → E (.ref e.NotBelow) none H) ∧
  (1 ≤ t → t < b → ∀ H', Same H H' → (goF (low t b).1 (low t b).2 mo = none → Q .non H') ∧ (∀ m xs, goF (low t b).1 (low t b).2 mo = some (m, xs) → ∀ p L, H p = none → H L = none → p ≠ L → GoAt H' p L m xs → Q (.ref p) H'))
theorem ok_goes_by (D : Stands K mg "goes_by" s_goes_by) (B : Bi mg) (Er : ErrOk K mg e)
    (h_see_below : Keeps P w K mg base 2 "see_below" ["fraction"] (sp_see_below K e))
    (h_lowest : Keeps P w K mg base 2 "lowest" ["fraction"] (sp_lowest K e))
    (h_parts : Keeps P w K mg base 2 "parts" ["number", "wanted"] (sp_parts K e)) : Keeps P w K mg base 3 "goes_by" ["fraction", "most"] (sp_goes_by K e) := by
  obtain ⟨f, fd, F, mF⟩ := D
  obtain ⟨f_see_below, fd_see_below, G_see_below, b_see_below, m_see_below, k_see_below⟩ := h_see_below
  obtain ⟨f_lowest, fd_lowest, G_lowest, b_lowest, m_lowest, k_lowest⟩ := h_lowest
  obtain ⟨f_parts, fd_parts, G_parts, b_parts, m_parts, k_parts⟩ := h_parts
  refine ⟨f, fd, ?_, F.binds (ps := ["fraction", "most"]) (fun _ _ _ _ _ _ us hl => match us, hl with | [_, _], _ => rfl), mF, F.kp⟩
  refine F.okX sc_goes_by (fun vs H Q E h => ?_) (fun cdv A outer s H vs Q E hr h => ?_)
  · obtain ⟨a, t, b, mo, rfl, hS, hb0, m0, m1, kE, kB, q⟩ := h
    rfl
  · obtain ⟨a, t, b, mo, rfl, hS, hb0, m0, m1, kE, kB, q⟩ := h
    refine ⟨_, (pss_cons (ps_expr (pe_call G_see_below (hr.mono (by decide)) (by rfl) m_see_below k_see_below b_see_below .nil (passes_call (E := E) (takes_of rfl rfl rfl rfl) (fun _ _ _ _ h => h)) (pa_cons (pv 0) pa_nil)))
      (pss_cons (ps_set (i := 2) sc_goes_by.nd rfl (Or.inr rfl) (pe_call G_lowest (hr.mono (by decide)) (by rfl) m_lowest k_lowest b_lowest .nil (passes_call (E := E) (takes_of rfl rfl rfl rfl) (fun _ _ _ _ h => h)) (pa_cons (pv 0) pa_nil)))
      (pss_cons (ps_for (passes_of rfl) rfl (pi_range2 (by rfl) B.range (pa_cons pe_int (pa_cons (pe_op op_add (pv 1) pe_int) pa_nil))) (pg_name (i := 3) sc_goes_by.nd rfl (Or.inr rfl)) (pss_cons (ps_if (pt_cmpR op_gt (pe_op op_mulW (pe_ix ix_tup (pv 2) pe_int (fun _ _ => rfl)) (pv 3)) pe_int (nomark _)) (pss_one (ps_ret pe_non)) pss_nil)
      (pss_cons (ps_set (i := 4) sc_goes_by.nd rfl (Or.inl rfl) (pe_call G_parts (hr.mono (by decide)) (by rfl) m_parts k_parts b_parts .nil passL (pa_cons (pe_op op_mulW (pe_ix ix_tup (pv 2) pe_int (fun _ _ => rfl)) (pv 3)) (pa_cons (pe_op op_mulW (pe_ix ix_tup (pv 2) pe_int (fun _ _ => rfl)) (pv 3)) pa_nil))))
      (pss_one (ps_if (pt_cmpR op_notN (pv 4) pe_non (nomark _)) (pss_one (ps_ret (pe_tup (pa_cons (pv 3) (pa_cons (pe_lc (own := [("part", 5)]) (g := gName 5) (tt := tYes) (by rfl) sc_goes_by.nd (pi_list (pv 4)) (blkOk_by (N := N_goes_by) (sc := defScope s_goes_by) (by decide +kernel)) (fun _ _ _ _ _ => pg_name (i := 5) sc_goes_by.nd rfl (Or.inl rfl)) (fun _ _ _ _ _ => pts_nil) (fun _ _ _ _ _ => (pe_op op_fdivP (pe_op op_mulW (pe_ix (r := rIxT K) ix_tup (pv 2) pe_int (fun _ _ => rfl)) (pv 3)) (pv 5)))) pa_nil))))) pss_nil)))))
      (pss_one (ps_ret pe_non))))), ?_⟩
    refine ⟨_, rfl, a, t, b, rfl, hS, kE, kB, fun g1 g2 => ?_⟩
    have hz : Sz 20 b := by
      show b.natAbs < 1048576
      omega
    refine ⟨_, rfl, a, t, b, rfl, hS, hz.mono, fun z => absurd z (by omega), fun _ H1 p s1 np ep => ?_⟩
    have q := q g1 g2
    have b1 : 1 ≤ b := by omega
    have l1 := low_bpos (t := t) b1
    have l2 := low_tnn (t := t) b1 (by omega)
    have l3 := low_ble (t := t) b1
    have l5 := low_tle (b := b) (by omega : 0 ≤ t)
    generalize (low t b).1 = T at *
    generalize (low t b).2 = Bb at *
    refine ⟨_, rfl, _, _, rfl, rfl, _, _, rfl, ⟨by decide, by decide, by omega, by omega⟩, ?_⟩
    have en : (mo + 1 - 1).toNat = mo.toNat := by omega
    rw [en]
    refine for_range (lo := 1) (n := mo.toNat) (fun i σ H' => Same H H' ∧ H' p = some (.tup [.int T, .int Bb]) ∧ goF T Bb mo = goR T Bb (mo.toNat - i) (1 + i) ∧ ∃ v1 v2 : Option V, σ = [some (.ref a), some (.int mo), some (.ref p), v1, v2, none]) ⟨s1, ep, rfl, none, none, rfl⟩ ?_ ?_
    · rintro i σ H2 hi ⟨s2, ep2, eg, v1, v2, rfl⟩
      obtain ⟨j, ej⟩ : ∃ j, mo.toNat - i = j + 1 := ⟨mo.toNat - i - 1, by omega⟩
      have ej2 : mo.toNat - (i + 1) = j := by omega
      rw [ej] at eg
      rw [ej2]
      obtain ⟨m, em⟩ : ∃ m : Int, 1 + (i : Int) = m := ⟨_, rfl⟩
      have em2 : 1 + ((i + 1 : Nat) : Int) = m + 1 := by omega
      rw [em] at eg ⊢
      rw [em2]
      have hm : 1 ≤ m := by omega
      have zm : Sz 20 m := by
        show m.natAbs < 1048576
        omega
      have zB : Sz 20 Bb := by
        show Bb.natAbs < 1048576
        omega
      have zT : Sz 20 T := by
        show T.natAbs < 1048576
        omega
      refine ⟨_, rfl, p, _, 1, _, rfl, rfl, SqT.of ep2, atI_nat (j := 1) rfl, _, rfl, _, _, rfl, rfl, zB.cm zm, _, _, rfl, rfl, _, rfl, ite2 (fun c => ?_) (fun c => ?_)⟩
      · rw [goR_great (of_decide_eq_true c)] at eg
        exact (q H2 s2).1 eg
      · have c : ¬ 1000 < Bb * m := fun z => c (decide_eq_true z)
        have N1 : 1 ≤ Bb * m := Int.mul_pos (by omega) (by omega)
        obtain ⟨n, eN⟩ : ∃ n : Nat, Bb * m = (n : Int) := ⟨(Bb * m).toNat, by omega⟩
        have eN2 : (Bb * m).toNat = n := by omega
        have w0 : 0 ≤ T * m := Int.mul_nonneg l2 (by omega)
        refine ⟨_, rfl, p, _, 1, _, rfl, rfl, SqT.of ep2, atI_nat (j := 1) rfl, _, rfl, _, _, rfl, rfl, zB.cm zm, _, rfl, p, _, 0, _, rfl, rfl, SqT.of ep2, atI_nat (j := 0) rfl, _, rfl, _, _, rfl, rfl, zT.cm zm, n, T * m, go_arg eN, by omega, by omega, w0, fun H3 s3 => ?_⟩
        have ep3 := s3 _ _ ep2
        cases pf : partsF n (T * m) with
        | none =>
          refine ⟨_, rfl, rfl, _, rfl, ?_⟩
          rw [show decide (V.non = V.non) = true from decide_eq_true rfl]
          show if (!true) = true then _ else _
          refine iteF ⟨s2.trans s3, ep3, ?_, _, _, rfl⟩
          rw [eg, goR_none c (by rw [eN2]; exact pf)]
        | some l =>
          refine fun F nF eF => ?_
          refine ⟨_, rfl, rfl, _, rfl, ?_⟩
          rw [show decide (V.ref F = V.non) = false from decide_eq_false fun z => nomatch z]
          show if (!false) = true then _ else _
          refine iteT ?_
          obtain ⟨q1, q2, q3, q4⟩ := partsF_some pf w0
          have ql := divs_len n
          refine ⟨_, rfl, _, rfl, F, rfl, ⟨_, SqL.of eF⟩, fun L nL => ?_⟩
          refine lc_list (K := K) (a := F) (xs := l.map V.int) (fun i H' => Same H3 H' ∧ H' L = some (.lst ((l.take i).map fun x => V.int (Bb * m / x)))) ⟨same_new nL, upd_same⟩ (fun i H' _ h => SqL.of (h.1 _ _ eF)) ?_ ?_
          · rintro i y H4 hy ⟨s4, e4⟩
            obtain ⟨x, ex, rfl⟩ := of_get_map hy
            have hx := mem_divs.mp (q3 x (List.mem_of_getElem? ex))
            have zx : Sz 20 x := by
              show x.natAbs < 1048576
              omega
            refine ⟨rfl, _, rfl, p, _, 1, _, rfl, rfl, SqT.of (s4 _ _ ep3), atI_nat (j := 1) rfl, _, rfl, _, _, rfl, rfl, zB.cm zm, _, rfl, _, _, rfl, rfl, zx.cd (by omega), _, e4, ?_, same_mut s4 nL, ?_⟩
            · rw [List.length_map, List.length_take]
              exact szl_lt (by omega)
            · rw [upd_same, take_snoc ex, List.map_append] <;> rfl
          · rintro H4 ⟨s4, e4⟩
            rw [List.length_map, List.take_length] at e4
            refine ⟨by show 2 ≤ sizeLine; decide, fun r nr => ?_⟩
            have s34 := (s2.trans s3).trans s4
            refine (q _ (s34.trans (same_new nr))).2 m _ (eg.trans (goR_some c (by rw [eN2]; exact pf))) r L (s34.free nr) ((s2.trans s3).free nL) (ne_of_none e4 nr).symm ⟨upd_same, ?_⟩
            rw [upd_ne (ne_of_none e4 nr), e4, List.map_map]
            rfl
    · rintro σ H2 ⟨s2, ep2, eg, v1, v2, rfl⟩
      rw [Nat.sub_self] at eg
      exact (q H2 s2).1 eg

abbrev s_law_cell_at : Stmt := topS 33
abbrev N_law_cell_at : List Str := ["script", "k"]
theorem sc_law_cell_at : FnScope N_law_cell_at ["script", "k"] (defScope s_law_cell_at) := ⟨rfl, rfl, rfl, by decide +kernel, rfl, by decide +kernel, by decide +kernel⟩
/-- script[k], nought beyond the end -/
def cell (ns : List Int) (k : Nat) : Int := ns.getD k 0
theorem cell_arg {a : Addr} {x : Int} {k : Nat} (h : x = k) : [V.ref a, V.int x] = [V.ref a, V.int (k : Int)] := by rw [h]
def sp_law_cell_at (K : PySem.W.Frag) (_ : ErrA) : Sp := fun vs H Q _ => ∃ (a : Addr) (ns : List Int) (k : Nat), vs = [.ref a, .int k] ∧ SqL K H a (ns.map V.int) ∧ ns.length ≤ 63 ∧ Q (.int (cell ns k)) H
theorem ok_law_cell_at (D : Stands K mg "_law_cell_at" s_law_cell_at) (B : Bi mg) (Er : ErrOk K mg e) : Keeps P w K mg base 1 "_law_cell_at" ["script", "k"] (sp_law_cell_at K e) := by
  obtain ⟨f, fd, F, mF⟩ := D
  refine ⟨f, fd, ?_, F.binds (ps := ["script", "k"]) (fun _ _ _ _ _ _ us hl => match us, hl with | [_, _], _ => rfl), mF, F.kp⟩
  refine toX (F.ok sc_law_cell_at (fun vs H Q E h => ?_) (fun cdv A outer s H vs Q E hr h => ?_))
  · obtain ⟨a, ns, k, rfl, hS, hk, q⟩ := h
    rfl
  · obtain ⟨a, ns, k, rfl, hS, hk, q⟩ := h
    refine ⟨_, (pss_cons (ps_if (pt_cmpR op_lt (pv 1) (pe_callB call_len_seq (by rfl) B.len (by decide +kernel) (pa_cons (pv 0) pa_nil)) (nomark _)) (pss_one (ps_ret (pe_ix ix_list (pv 0) (pv 1) (fun _ _ => rfl)))) pss_nil)
      (pss_one (ps_ret pe_int))), ?_⟩
    refine ⟨_, rfl, _, rfl, a, _, rfl, .inl hS, _, _, rfl, rfl, _, rfl, ite2 (fun c => ?_) (fun c => ?_)⟩
    · have c := of_decide_eq_true c
      rw [List.length_map] at c
      have hl : k < ns.length := by omega
      have g : ns[k]? = some (cell ns k) := by
        unfold cell
        rw [List.getD_eq_getElem?_getD, List.getElem?_eq_getElem hl] <;> rfl
      exact ⟨_, rfl, _, rfl, a, _, _, _, rfl, rfl, hS, atI_nat (get_map g), q⟩
    · have z : cell ns k = 0 := by
        unfold cell
        rw [List.getD_eq_getElem?_getD, List.getElem?_eq_none] <;> first | rfl | skip
        have c : ¬ ((k : Int) < ((ns.map V.int).length : Int)) := fun z => c (decide_eq_true z)
        rw [List.length_map] at c
        omega
      rw [z] at q
      exact q

abbrev s_law_comes : Stmt := topS 41
abbrev N_law_comes : List Str := ["row", "fraction", "top", "bottom", "share"]
theorem sc_law_comes : FnScope N_law_comes ["row", "fraction"] (defScope s_law_comes) := ⟨rfl, rfl, rfl, by decide +kernel, rfl, by decide +kernel, by decide +kernel⟩
def sp_law_comes (K : PySem.W.Frag) (_ : ErrA) : Sp := fun vs H Q _ => ∃ (c a : Addr) (xs : List Int) (t b : Int), vs = [.ref c, .ref a] ∧ SqL K H c (xs.map V.int) ∧ SqT K H a [.int t, .int b] ∧ SumOk xs ∧ Sz 1000 t ∧ Sz 1000 b ∧ Q (.bl (decide (Comes xs t b))) H
theorem ok_law_comes (D : Stands K mg "_law_comes" s_law_comes) (B : Bi mg) (Er : ErrOk K mg e) : Keeps P w K mg base 1 "_law_comes" ["row", "fraction"] (sp_law_comes K e) := by
  obtain ⟨f, fd, F, mF⟩ := D
  refine ⟨f, fd, ?_, F.binds (ps := ["row", "fraction"]) (fun _ _ _ _ _ _ us hl => match us, hl with | [_, _], _ => rfl), mF, F.kp⟩
  refine toX (F.ok sc_law_comes (fun vs H Q E h => ?_) (fun cdv A outer s H vs Q E hr h => ?_))
  · obtain ⟨c, a, xs, t, b, rfl, hC, hA, ok, zt, zb, q⟩ := h
    rfl
  · obtain ⟨c, a, xs, t, b, rfl, hC, hA, ok, zt, zb, q⟩ := h
    refine ⟨_, (pss_cons (ps_set (i := 2) sc_law_comes.nd rfl (Or.inl rfl) pe_int)
      (pss_cons (ps_set (i := 3) sc_law_comes.nd rfl (Or.inl rfl) pe_int)
      (pss_cons (ps_for PassesOwn.never rfl (pi_list (pv 0)) (pg_name (i := 4) sc_law_comes.nd rfl (Or.inl rfl)) (pss_cons (ps_set (i := 2) sc_law_comes.nd rfl (Or.inl rfl) (pe_op op_add (pe_op op_mulW (pv 2) (pv 4)) (pv 3)))
      (pss_one (ps_set (i := 3) sc_law_comes.nd rfl (Or.inl rfl) (pe_op op_mulW (pv 3) (pv 4))))))
      (pss_one (ps_ret (pe_cmpR op_eq (pe_op op_mulW (pv 2) (pe_ix ix_tup (pv 1) pe_int (fun _ _ => rfl))) (pe_op op_mulW (pe_ix ix_tup (pv 1) pe_int (fun _ _ => rfl)) (pv 3)) (nomark _))))))), ?_⟩
    have okc := ok.c
    refine ⟨_, rfl, c, rfl, ⟨_, hC⟩, for_list (K := K) (a := c) (xs := xs.map V.int) (fun i σ H' => H' = H ∧ ∃ v : Option V, σ = [some (.ref c), some (.ref a), some (.int (sumS (xs.take i)).1), some (.int (sumS (xs.take i)).2), v])
      ⟨rfl, none, rfl⟩ (fun i σ H' _ h => h.1 ▸ hC) ?_ ?_⟩
    · rintro i y σ H' hy ⟨rfl, v, rfl⟩
      obtain ⟨s, es, rfl⟩ := of_get_map hy
      obtain ⟨m1, m2⟩ := okc.step es
      refine ⟨_, rfl, _, rfl, _, _, rfl, rfl, m1, _, rfl, _, _, rfl, rfl, _, rfl, _, rfl, _, _, rfl, rfl, m2, rfl, some (.int s), ?_⟩
      rw [take_snoc es, sumS_snoc] <;> rfl
    · rintro σ H' ⟨rfl, v, rfl⟩
      rw [List.length_map, List.take_length]
      refine ⟨_, rfl, _, rfl, a, _, 1, _, rfl, rfl, hA, atI_nat (j := 1) rfl, _, _, rfl, rfl, ok.top.cm zb, ?_⟩
      refine ⟨_, rfl, a, _, 0, _, rfl, rfl, hA, atI_nat (j := 0) rfl, _, rfl, _, _, rfl, rfl, zt.cm ok.sz, rfl, ?_⟩
      have e : decide (V.int ((sumS xs).1 * b) = V.int (t * (sumS xs).2)) = decide (Comes xs t b) := decide_eq_decide.mpr ⟨fun z => V.int.inj z, fun z => congrArg V.int z⟩
      show Q (.bl (decide (V.int ((sumS xs).1 * b) = V.int (t * (sumS xs).2)))) H'
      rw [e]
      exact q

abbrev s_law_small : Stmt := topS 42
abbrev N_law_small : List Str := ["script", "first", "some", "bottom"]
theorem sc_law_small : FnScope N_law_small ["script", "first"] (defScope s_law_small) := ⟨rfl, rfl, rfl, by decide +kernel, rfl, by decide +kernel, by decide +kernel⟩
/-- a small fraction between nought and one -/
def sp_law_small (K : PySem.W.Frag) (_ : ErrA) : Sp := fun vs H Q _ => ∃ (a : Addr) (ns : List Int) (f : Nat), vs = [.ref a, .int f] ∧ SqL K H a (ns.map V.int) ∧ ns.length ≤ 63 ∧
  ∀ (t b : Int) H' p, 1 ≤ t → t < b → b ≤ 24 → Same H H' → H' p = some (.tup [.int t, .int b]) → Q (.ref p) H'
theorem ok_law_small (D : Stands K mg "_law_small" s_law_small) (B : Bi mg) (Er : ErrOk K mg e)
    (h_law_cell_at : Keeps P w K mg base 1 "_law_cell_at" ["script", "k"] (sp_law_cell_at K e)) : Keeps P w K mg base 2 "_law_small" ["script", "first"] (sp_law_small K e) := by
  obtain ⟨f, fd, F, mF⟩ := D
  obtain ⟨f_law_cell_at, fd_law_cell_at, G_law_cell_at, b_law_cell_at, m_law_cell_at, k_law_cell_at⟩ := h_law_cell_at
  refine ⟨f, fd, ?_, F.binds (ps := ["script", "first"]) (fun _ _ _ _ _ _ us hl => match us, hl with | [_, _], _ => rfl), mF, F.kp⟩
  refine toX (F.ok sc_law_small (fun vs H Q E h => ?_) (fun cdv A outer s H vs Q E hr h => ?_))
  · obtain ⟨a, ns, f, rfl, hS, hlen, q⟩ := h
    rfl
  · obtain ⟨a, ns, f, rfl, hS, hlen, q⟩ := h
    refine ⟨_, (pss_cons (ps_set (i := 2) sc_law_small.nd rfl (Or.inl rfl) (pe_lst (pa_cons (pe_tup (pa_cons pe_int (pa_cons pe_int pa_nil))) (pa_cons (pe_tup (pa_cons pe_int (pa_cons pe_int pa_nil))) (pa_cons (pe_tup (pa_cons pe_int (pa_cons pe_int pa_nil))) (pa_cons (pe_tup (pa_cons pe_int (pa_cons pe_int pa_nil))) (pa_cons (pe_tup (pa_cons pe_int (pa_cons pe_int pa_nil))) (pa_cons (pe_tup (pa_cons pe_int (pa_cons pe_int pa_nil))) (pa_cons (pe_tup (pa_cons pe_int (pa_cons pe_int pa_nil))) (pa_cons (pe_tup (pa_cons pe_int (pa_cons pe_int pa_nil))) (pa_cons (pe_tup (pa_cons pe_int (pa_cons pe_int pa_nil))) (pa_cons (pe_tup (pa_cons pe_int (pa_cons pe_int pa_nil))) (pa_cons (pe_tup (pa_cons pe_int (pa_cons pe_int pa_nil))) (pa_cons (pe_tup (pa_cons pe_int (pa_cons pe_int pa_nil))) pa_nil))))))))))))))
      (pss_cons (ps_if (pt_cmpR op_gt (pe_op op_mod (pe_call G_law_cell_at (hr.mono (by decide)) (by rfl) m_law_cell_at k_law_cell_at b_law_cell_at .nil passL (pa_cons (pv 0) (pa_cons (pv 1) pa_nil))) pe_int) pe_int (nomark _)) (pss_one (ps_ret (pe_ix ix_list (pv 2) (pe_op op_mod (pe_op op_fdivP (pe_call G_law_cell_at (hr.mono (by decide)) (by rfl) m_law_cell_at k_law_cell_at b_law_cell_at .nil passL (pa_cons (pv 0) (pa_cons (pv 1) pa_nil))) pe_int) pe_int) (fun _ _ => rfl)))) pss_nil)
      (pss_cons (ps_set (i := 3) sc_law_small.nd rfl (Or.inl rfl) (pe_op op_add pe_int (pe_op op_mod (pe_op op_fdivP (pe_call G_law_cell_at (hr.mono (by decide)) (by rfl) m_law_cell_at k_law_cell_at b_law_cell_at .nil passL (pa_cons (pv 0) (pa_cons (pv 1) pa_nil))) pe_int) pe_int)))
      (pss_one (ps_ret (pe_tup (pa_cons (pe_op op_add pe_int (pe_op op_mod (pe_call G_law_cell_at (hr.mono (by decide)) (by rfl) m_law_cell_at k_law_cell_at b_law_cell_at .nil passL (pa_cons (pv 0) (pa_cons (pe_op op_add (pv 1) pe_int) pa_nil))) (pe_op op_sub (pv 3) pe_int))) (pa_cons (pv 3) pa_nil)))))))), ?_⟩
    have two : 2 ≤ sizeLine := by decide
    refine ⟨two, fun p0 n0 => ⟨two, fun p1 n1 => ⟨two, fun p2 n2 => ⟨two, fun p3 n3 => ⟨two, fun p4 n4 => ⟨two, fun p5 n5 => ⟨two, fun p6 n6 => ⟨two, fun p7 n7 => ⟨two, fun p8 n8 => ⟨two, fun p9 n9 => ⟨two, fun p10 n10 => ⟨two, fun p11 n11 => ⟨by show 12 ≤ sizeLine; decide, fun L nL => ?_⟩⟩⟩⟩⟩⟩⟩⟩⟩⟩⟩⟩⟩
    have all : ∃ H', (upd (upd (upd (upd (upd (upd (upd (upd (upd (upd (upd (upd (upd H p0 (.tup [.int 1, .int 2])) p1 (.tup [.int 2, .int 3])) p2 (.tup [.int 3, .int 4])) p3 (.tup [.int 5, .int 6])) p4 (.tup [.int 7, .int 12])) p5 (.tup [.int 3, .int 5])) p6 (.tup [.int 1, .int 3])) p7 (.tup [.int 11, .int 12])) p8 (.tup [.int 5, .int 12])) p9 (.tup [.int 2, .int 5])) p10 (.tup [.int 4, .int 5])) p11 (.tup [.int 9, .int 10])) L (.lst [.ref p0, .ref p1, .ref p2, .ref p3, .ref p4, .ref p5, .ref p6, .ref p7, .ref p8, .ref p9, .ref p10, .ref p11])) = H' ∧
        Same H H' ∧ H' L = some (.lst [.ref p0, .ref p1, .ref p2, .ref p3, .ref p4, .ref p5, .ref p6, .ref p7, .ref p8, .ref p9, .ref p10, .ref p11]) ∧
        ∀ j : Nat, j < 12 → ∃ (p : Addr) (t b : Int), [V.ref p0, .ref p1, .ref p2, .ref p3, .ref p4, .ref p5, .ref p6, .ref p7, .ref p8, .ref p9, .ref p10, .ref p11][j]? = some (.ref p) ∧ 1 ≤ t ∧ t < b ∧ b ≤ 24 ∧ H' p = some (.tup [.int t, .int b]) := by
      refine ⟨_, rfl, ?_, upd_same, fun j hj => ?_⟩
      · exact (((((((((((same_new n0).trans (same_new n1)).trans (same_new n2)).trans (same_new n3)).trans (same_new n4)).trans (same_new n5)).trans (same_new n6)).trans (same_new n7)).trans (same_new n8)).trans (same_new n9)).trans (same_new n10)).trans ((same_new n11).trans (same_new nL))
      · have sL := fun {o : HO} => same_new (o := o) nL
        have s11 := fun {o : HO} => (same_new (o := o) n11)
        obtain rfl | rfl | rfl | rfl | rfl | rfl | rfl | rfl | rfl | rfl | rfl | rfl : j = 0 ∨ j = 1 ∨ j = 2 ∨ j = 3 ∨ j = 4 ∨ j = 5 ∨ j = 6 ∨ j = 7 ∨ j = 8 ∨ j = 9 ∨ j = 10 ∨ j = 11 := by omega
        · exact ⟨p0, 1, 2, rfl, by decide, by decide, by decide, same_new nL _ _ (same_new n11 _ _ (same_new n10 _ _ (same_new n9 _ _ (same_new n8 _ _ (same_new n7 _ _ (same_new n6 _ _ (same_new n5 _ _ (same_new n4 _ _ (same_new n3 _ _ (same_new n2 _ _ (same_new n1 _ _ upd_same)))))))))))⟩
        · exact ⟨p1, 2, 3, rfl, by decide, by decide, by decide, same_new nL _ _ (same_new n11 _ _ (same_new n10 _ _ (same_new n9 _ _ (same_new n8 _ _ (same_new n7 _ _ (same_new n6 _ _ (same_new n5 _ _ (same_new n4 _ _ (same_new n3 _ _ (same_new n2 _ _ upd_same))))))))))⟩
        · exact ⟨p2, 3, 4, rfl, by decide, by decide, by decide, same_new nL _ _ (same_new n11 _ _ (same_new n10 _ _ (same_new n9 _ _ (same_new n8 _ _ (same_new n7 _ _ (same_new n6 _ _ (same_new n5 _ _ (same_new n4 _ _ (same_new n3 _ _ upd_same)))))))))⟩
        · exact ⟨p3, 5, 6, rfl, by decide, by decide, by decide, same_new nL _ _ (same_new n11 _ _ (same_new n10 _ _ (same_new n9 _ _ (same_new n8 _ _ (same_new n7 _ _ (same_new n6 _ _ (same_new n5 _ _ (same_new n4 _ _ upd_same))))))))⟩
        · exact ⟨p4, 7, 12, rfl, by decide, by decide, by decide, same_new nL _ _ (same_new n11 _ _ (same_new n10 _ _ (same_new n9 _ _ (same_new n8 _ _ (same_new n7 _ _ (same_new n6 _ _ (same_new n5 _ _ upd_same)))))))⟩
        · exact ⟨p5, 3, 5, rfl, by decide, by decide, by decide, same_new nL _ _ (same_new n11 _ _ (same_new n10 _ _ (same_new n9 _ _ (same_new n8 _ _ (same_new n7 _ _ (same_new n6 _ _ upd_same))))))⟩
        · exact ⟨p6, 1, 3, rfl, by decide, by decide, by decide, same_new nL _ _ (same_new n11 _ _ (same_new n10 _ _ (same_new n9 _ _ (same_new n8 _ _ (same_new n7 _ _ upd_same)))))⟩
        · exact ⟨p7, 11, 12, rfl, by decide, by decide, by decide, same_new nL _ _ (same_new n11 _ _ (same_new n10 _ _ (same_new n9 _ _ (same_new n8 _ _ upd_same))))⟩
        · exact ⟨p8, 5, 12, rfl, by decide, by decide, by decide, same_new nL _ _ (same_new n11 _ _ (same_new n10 _ _ (same_new n9 _ _ upd_same)))⟩
        · exact ⟨p9, 2, 5, rfl, by decide, by decide, by decide, same_new nL _ _ (same_new n11 _ _ (same_new n10 _ _ upd_same))⟩
        · exact ⟨p10, 4, 5, rfl, by decide, by decide, by decide, same_new nL _ _ (same_new n11 _ _ upd_same)⟩
        · exact ⟨p11, 9, 10, rfl, by decide, by decide, by decide, same_new nL _ _ upd_same⟩
    obtain ⟨H', eH, s1, eL, at1⟩ := all
    dsimp only
    rw [eH]
    have hS1 := s1.seq hS
    refine ⟨_, rfl, _, rfl, a, ns, f, rfl, hS1, hlen, _, _, rfl, rfl, by show (0 : Int) < 3; decide, _, _, rfl, rfl, _, rfl, ite2 (fun c => ?_) (fun c => ?_)⟩
    · obtain ⟨p, t, b, ep, t1, tb, b2, et⟩ := at1 (cell ns f / 3 % 12).toNat (by omega)
      refine ⟨_, rfl, _, rfl, _, rfl, a, ns, f, rfl, hS1, hlen, _, _, rfl, rfl, (Sz.lit : Sz 2 3).cd (by decide), _, _, rfl, rfl, by show (0 : Int) < 12; decide, L, _, _, _, rfl, rfl, SqL.of eL, at_of (j := (cell ns f / 3 % 12).toNat) (by omega) ep, ?_⟩
      exact q t b H' p t1 tb b2 s1 et
    · refine ⟨_, rfl, _, rfl, a, ns, f, rfl, hS1, hlen, _, _, rfl, rfl, (Sz.lit : Sz 2 3).cd (by decide), _, _, rfl, rfl, by show (0 : Int) < 23; decide, _, _, rfl, rfl, ?_⟩
      obtain ⟨b, eb⟩ : ∃ b : Int, 2 + cell ns f / 3 % 23 = b := ⟨_, rfl⟩
      have m1 := Int.emod_nonneg (cell ns (f + 1)) (b := b - 1) (by omega)
      have m2 := Int.emod_lt_of_pos (cell ns (f + 1)) (b := b - 1) (by omega)
      dsimp only
      rw [eb]
      refine ⟨_, rfl, _, rfl, _, _, rfl, rfl, a, ns, f + 1, cell_arg (by omega), hS1, hlen, _, rfl, _, _, rfl, rfl, _, _, rfl, rfl, by show 0 < b - 1; omega, _, _, rfl, rfl, _, rfl, two, fun p np => ?_⟩
      exact q _ b _ p (by omega) (by omega) (by omega) (s1.trans (same_new np)) upd_same

abbrev s_law : Stmt := topS 43
abbrev N_law : List Str := ["script", "fraction", "told", "by", "first", "row", "further"]
theorem sc_law : FnScope N_law ["script"] (defScope s_law) := ⟨rfl, rfl, rfl, by decide +kernel, rfl, by decide +kernel, by decide +kernel⟩
theorem cut_last (ys : List Int) (n : Int) : cutV ((ys ++ [n]).map V.int) none (some (-1)) = ys.map V.int := by
  have e : HT.sIx ((ys ++ [n]).map V.int).length ((ys ++ [n]).map V.int).length (some (-1)) = ys.length := by
    show (if (-1 : Int) < 0 then ((-1 : Int) + (((List.map V.int (ys ++ [n])).length : Nat) : Int)).toNat else min (-1 : Int).toNat (List.map V.int (ys ++ [n])).length) = ys.length
    rw [if_pos (by decide), List.length_map, List.length_append]
    simp only [List.length_cons, List.length_nil]
    omega
  show List.take (HT.sIx ((ys ++ [n]).map V.int).length ((ys ++ [n]).map V.int).length (some (-1)) - 0) (List.drop 0 ((ys ++ [n]).map V.int)) = _
  rw [e, List.drop_zero, Nat.sub_zero, List.map_append]
  exact List.take_left' (List.length_map _)
/-- where the rows stand -/
def Told (t b : Int) (H : Hp) (ps : List Addr) : Prop := ∀ p ∈ ps, ∃ xs, H p = some (.lst (xs.map V.int)) ∧ Tld t b xs
theorem Told.same {t b : Int} {H H' : Hp} {ps : List Addr} (h : Told t b H ps) (s : Same H H') : Told t b H' ps := fun p m => by
  obtain ⟨xs, e, d⟩ := h p m
  exact ⟨xs, s _ _ e, d⟩
def sp_law (K : PySem.W.Frag) : Sp := fun vs H Q _ => ∃ (a : Addr) (ns : List Int), vs = [.ref a] ∧ SqL K H a (ns.map V.int) ∧ ns.length ≤ 63 ∧ ∀ H', Q (.bl true) H'
theorem ok_law {f : Addr} {fd : FuncData} (F : Fun K "law" "law" s_law f fd) (B : Bi mg) (Er : ErrOk K mg e)
    (h_law_small : Keeps P w K mg base 2 "_law_small" ["script", "first"] (sp_law_small K e))
    (h_goes_by : Keeps P w K mg base 3 "goes_by" ["fraction", "most"] (sp_goes_by K e))
    (h_fewest : Keeps P w K mg base 10 "fewest" ["fraction", "greatest"] (sp_fewest K e))
    (h_all_ways : Keeps P w K mg base 10 "all_ways" ["fraction", "most", "greatest"] (sp_all_ways K e))
    (h_greatest_first : Keeps P w K mg base 4 "greatest_first" ["fraction"] (sp_greatest_first K e))
    (h_rising : Keeps P w K mg base 5 "rising" ["fraction"] (sp_rising K e))
    (h_split : Keeps P w K mg base 1 "split" ["share"] (sp_split K e))
    (h_is_way : Keeps P w K mg base 5 "is_way" ["fraction", "shares"] (sp_is_way K e))
    (h_law_comes : Keeps P w K mg base 1 "_law_comes" ["row", "fraction"] (sp_law_comes K e)) : FnOk P w K mg base CX0 11 f fd ["script"] (sp_law K) := by
  obtain ⟨f_law_small, fd_law_small, G_law_small, b_law_small, m_law_small, k_law_small⟩ := h_law_small
  obtain ⟨f_goes_by, fd_goes_by, G_goes_by, b_goes_by, m_goes_by, k_goes_by⟩ := h_goes_by
  obtain ⟨f_fewest, fd_fewest, G_fewest, b_fewest, m_fewest, k_fewest⟩ := h_fewest
  obtain ⟨f_all_ways, fd_all_ways, G_all_ways, b_all_ways, m_all_ways, k_all_ways⟩ := h_all_ways
  obtain ⟨f_greatest_first, fd_greatest_first, G_greatest_first, b_greatest_first, m_greatest_first, k_greatest_first⟩ := h_greatest_first
  obtain ⟨f_rising, fd_rising, G_rising, b_rising, m_rising, k_rising⟩ := h_rising
  obtain ⟨f_split, fd_split, G_split, b_split, m_split, k_split⟩ := h_split
  obtain ⟨f_is_way, fd_is_way, G_is_way, b_is_way, m_is_way, k_is_way⟩ := h_is_way
  obtain ⟨f_law_comes, fd_law_comes, G_law_comes, b_law_comes, m_law_comes, k_law_comes⟩ := h_law_comes
  refine F.ok sc_law (fun vs H Q E h => ?_) (fun cdv A outer s H vs Q E hr h => ?_)
  · obtain ⟨a, ns, rfl, _⟩ := h
    rfl
  · obtain ⟨a, ns, rfl, hS, hlen, kq⟩ := h
    refine ⟨_, (pss_cons (ps_set (i := 1) sc_law.nd rfl (Or.inl rfl) (pe_call G_law_small (hr.mono (by decide)) (by rfl) m_law_small k_law_small b_law_small .nil passL (pa_cons (pv 0) (pa_cons pe_int pa_nil))))
      (pss_cons (ps_set (i := 2) sc_law.nd rfl (Or.inl rfl) (pe_op op_cat (pe_lst (pa_cons (pe_call G_greatest_first (hr.mono (by decide)) (by rfl) m_greatest_first k_greatest_first b_greatest_first .nil passL (pa_cons (pv 1) pa_nil)) (pa_cons (pe_call G_rising (hr.mono (by decide)) (by rfl) m_rising k_rising b_rising .nil passL (pa_cons (pv 1) pa_nil)) pa_nil))) (pe_call G_all_ways (hr.mono (by decide)) (by rfl) m_all_ways k_all_ways b_all_ways .nil passL (pa_cons (pv 1) (pa_cons pe_int (pa_cons pe_int pa_nil))))))
      (pss_cons (ps_set (i := 3) sc_law.nd rfl (Or.inl rfl) (pe_call G_goes_by (hr.mono (by decide)) (by rfl) m_goes_by k_goes_by b_goes_by .nil passL (pa_cons (pv 1) (pa_cons pe_int pa_nil))))
      (pss_cons (ps_if (pt_cmpR op_notN (pv 3) pe_non (nomark _)) (pss_one (ps_expr (pe_bm PySem.F.plainAttrs_list PySem.F.slot_list_append PySem.F.type_list_append mt_append (pv 2) (pa_cons (pe_ix ix_tup (pv 3) pe_int (fun _ _ => rfl)) pa_nil)))) pss_nil)
      (pss_cons (ps_set (i := 4) sc_law.nd rfl (Or.inl rfl) (pe_call G_fewest (hr.mono (by decide)) (by rfl) m_fewest k_fewest b_fewest .nil passL (pa_cons (pv 1) (pa_cons pe_int pa_nil))))
      (pss_cons (ps_for PassesOwn.never rfl (pi_list (pv 2)) (pg_name (i := 5) sc_law.nd rfl (Or.inl rfl)) (pss_cons (ps_if (PW.pt (pw_or (pt_cmpR op_isnot_bl (pe_call G_is_way (hr.mono (by decide)) (by rfl) m_is_way k_is_way b_is_way .nil passL (pa_cons (pv 1) (pa_cons (pe_callTy call_list_of (by rfl) B.list (by decide +kernel) (pa_cons (pv 5) pa_nil)) pa_nil))) pe_bl (nomark _)) (pw_or (pt_cmpR (op_neD hr.units) (pv 5) (pe_callB (cr_sortedSet rfl) (by rfl) B.sorted (by decide +kernel) (pa_cons (pe_callTy (cr_setL rfl) (by rfl) B.set (by decide +kernel) (pa_cons (pv 5) pa_nil)) pa_nil)) (nomark _)) (pw_or1 (pt_not (pt_val (pe_call G_law_comes (hr.mono (by decide)) (by rfl) m_law_comes k_law_comes b_law_comes .nil passL (pa_cons (pv 5) (pa_cons (pv 1) pa_nil))))))))) (pss_one (ps_ret pe_bl)) pss_nil)
      (pss_cons (ps_if (PW.pt (pw_and (pt_cmpR op_lt (pe_ix ix_list (pv 5) (pe_un un_neg pe_int) (fun _ _ => rfl)) pe_int (nomark _)) (pw_and (pt_cmpR op_lt (pe_callB call_len_seq (by rfl) B.len (by decide +kernel) (pa_cons (pv 5) pa_nil)) pe_int (nomark _)) (pw_and1 (PW.pt (pw_or (pt_cmpR op_isN (pv 4) pe_non (nomark _)) (pw_or1 (pt_cmpR op_gt (pe_callB call_len_seq (by rfl) B.len (by decide +kernel) (pa_cons (pv 4) pa_nil)) (pe_callB call_len_seq (by rfl) B.len (by decide +kernel) (pa_cons (pv 5) pa_nil)) (nomark _))))))))) (pss_one (ps_ret pe_bl)) pss_nil)
      (pss_cons (ps_set (i := 6) sc_law.nd rfl (Or.inl rfl) (pe_op op_cat (pe_callTy call_list_of (by rfl) B.list (by decide +kernel) (pa_cons (pe_slice sl_list (pv 5) po_none (po_some (pe_un un_neg pe_int))) pa_nil)) (pe_call G_split (hr.mono (by decide)) (by rfl) m_split k_split b_split .nil passL (pa_cons (pe_ix ix_list (pv 5) (pe_un un_neg pe_int) (fun _ _ => rfl)) pa_nil))))
      (pss_one (ps_if (PW.pt (pw_or (pt_cmpR op_isnot_bl (pe_call G_is_way (hr.mono (by decide)) (by rfl) m_is_way k_is_way b_is_way .nil passL (pa_cons (pv 1) (pa_cons (pe_callTy call_list_of (by rfl) B.list (by decide +kernel) (pa_cons (pv 6) pa_nil)) pa_nil))) pe_bl (nomark _)) (pw_or1 (pt_not (pt_val (pe_call G_law_comes (hr.mono (by decide)) (by rfl) m_law_comes k_law_comes b_law_comes .nil passL (pa_cons (pv 6) (pa_cons (pv 1) pa_nil)))))))) (pss_one (ps_ret pe_bl)) pss_nil))))))
      (pss_one (ps_ret (pe_cmpR op_gt (pe_callB call_len_seq (by rfl) B.len (by decide +kernel) (pa_cons (pv 2) pa_nil)) pe_int (nomark _)))))))))), ?_⟩
    refine ⟨_, rfl, a, ns, 0, rfl, hS, hlen, fun t b H1 f h1 h2 b24 s1 ef => ?_⟩
    have zt : Sz 1000 t := Sz.mono (a := 10) (by show t.natAbs < 1024; omega)
    have zb : Sz 1000 b := Sz.mono (a := 10) (by show b.natAbs < 1024; omega)
    obtain ⟨gs, eg, tg⟩ := tld_greedy h1 h2 b24
    have lb := low_bpos (t := t) (by omega : 1 ≤ b)
    have lt := low_tnn (t := t) (by omega : 1 ≤ b) (by omega)
    refine ⟨_, rfl, f, t, b, rfl, SqT.of ef, by omega, fun z => absurd z (by omega), fun _ _ z => absurd z (by omega), fun _ _ z => absurd z (by rw [eg]; simp), fun _ _ xs ex H2 g s2 ng eg2 => ?_⟩
    rw [eg] at ex
    cases ex
    have ef2 := s2 _ _ ef
    refine ⟨_, rfl, f, t, b, rfl, SqT.of ef2, by omega, fun z => absurd z (by omega), fun _ _ z => absurd z (by omega), fun _ _ H3 r s3 nr er => ?_⟩
    have ef3 := s3 _ _ ef2
    refine ⟨by show 2 ≤ sizeLine; decide, fun l nl => ?_⟩
    have s4 := same_new (o := .lst [.ref g, .ref r]) nl
    have el : (upd H3 l (.lst [.ref g, .ref r])) l = some (.lst [.ref g, .ref r]) := upd_same
    dsimp only
    generalize (upd H3 l (.lst [.ref g, .ref r])) = H4 at s4 el ⊢
    refine ⟨_, rfl, f, t, b, 3, 11, rfl, SqT.of (s4 _ _ ef3), by omega, by decide, by decide, by decide, fun z => absurd z (by omega), fun _ _ z => absurd z (by omega), fun _ _ H5 p ps s5 np ep rp nps => ?_⟩
    have pl : ps.length ≤ 13179660 := by
      rw [rp.len, all_rows lt lb]
      exact Nat.le_trans (List.length_filter_le _ _) (rowsF_len (by decide) (by decide) (by decide))
    refine ⟨l, p, _, _, rfl, rfl, s5 _ _ el, ep, szl (by rw [List.length_map]; show 2 + ps.length ≤ 16000000; omega), fun T nT => ?_⟩
    have s6 := same_new (o := .lst ([.ref g, .ref r] ++ ps.map V.ref)) nT
    have eT : (upd H5 T (.lst ([.ref g, .ref r] ++ ps.map V.ref))) T = some (.lst ((g :: r :: ps).map V.ref)) := upd_same
    have ef6 := s6 _ _ (s5 _ _ (s4 _ _ ef3))
    have told0 : Told t b H5 (g :: r :: ps) := fun p m => by
      rcases List.mem_cons.mp m with rfl | m
      · exact ⟨gs, s5 _ _ (s4 _ _ (s3 _ _ eg2)), tg⟩
      · rcases List.mem_cons.mp m with rfl | m
        · exact ⟨_, s5 _ _ (s4 _ _ er), tld_rising h1 h2 b24⟩
        · obtain ⟨_, xs, hx, e⟩ := rp.mem m
          exact ⟨xs, e, tld_all h1 h2 (by decide) hx⟩
    have nin : T ∉ g :: r :: ps := fun m => by
      obtain ⟨xs, e, _⟩ := told0 T m
      rw [nT] at e
      cases e
    have fT : f ≠ T := ne_of_none (s5 _ _ (s4 _ _ ef3)) nT
    have told1 := told0.same s6
    clear told0
    have l2 : 2 ≤ (g :: r :: ps).length := by simp
    have pl2 : (g :: r :: ps).length ≤ 13179662 := by
      simp only [List.length_cons]
      omega
    dsimp only
    generalize (upd H5 T (.lst ([.ref g, .ref r] ++ ps.map V.ref))) = H6 at s6 eT ef6 told1 ⊢
    generalize g :: r :: ps = rs at eT told1 nin l2 pl2 ⊢
    show tSeq (tAsg _ _) _ _ _ _
    refine cut (fun σ' H' => ∃ v : V, σ' = [some (.ref a), some (.ref f), some (.ref T), some v, none, none, none] ∧ Same H6 H' ∧ (v = .non ∨ ∃ (q L : Addr) (m : Int) (xs : List Int), v = .ref q ∧ L ≠ T ∧ H' q = some (.tup [.int m, .ref L]) ∧ H' L = some (.lst (xs.map V.int)) ∧ Tld t b xs)) (fun R D k => ?_) ?_
    · refine ⟨_, rfl, f, t, b, 4, rfl, SqT.of ef6, by omega, by decide, by decide, fun z => absurd z (by omega), fun _ _ z => absurd z (by omega), fun _ _ H7 s7 => ⟨fun no => ?_, fun m xs em q L nq nL qL ga => ?_⟩⟩
      · exact k _ _ ⟨_, rfl, s7, .inl rfl⟩
      · exact k _ _ ⟨_, rfl, s7, .inr ⟨q, L, m, xs, rfl, (ne_of_none eT nL).symm, ga.1, ga.2, tld_goes h1 h2 em⟩⟩
    rintro σ H7 ⟨v, rfl, s7, hv⟩
    have eT7 := s7 _ _ eT
    have ef7 := s7 _ _ ef6
    have told7 := told1.same s7
    refine cut (fun σ' H' => ∃ rs : List Addr, σ' = [some (.ref a), some (.ref f), some (.ref T), some v, none, none, none] ∧ H' T = some (.lst (rs.map V.ref)) ∧ H' f = some (.tup [.int t, .int b]) ∧ Told t b H' rs ∧ 2 ≤ rs.length) (fun R D k => ?_) ?_
    · refine ⟨_, rfl, rfl, _, rfl, ?_⟩
      rcases hv with rfl | ⟨q, L, m, xs, rfl, LT, eq, eL, tL⟩
      · rw [decide_eq_true rfl]
        show if (!true) = true then _ else _
        refine iteF ?_
        exact k _ _ ⟨rs, rfl, eT7, ef7, told7, l2⟩
      · rw [decide_eq_false (fun z => nomatch z)]
        refine iteT ?_
        refine ⟨_, rfl, .inl ⟨rfl, _, SqL.of eT7⟩, _, rfl, q, _, 1, _, rfl, rfl, SqT.of eq, atI_nat (j := 1) rfl, T, _, _, rfl, rfl, eT7, by rw [List.length_map]; exact szl_lt (by omega), ?_⟩
        refine k _ _ ⟨rs ++ [L], rfl, ?_, ?_, fun p m => ?_, by rw [List.length_append]; omega⟩
        · rw [upd_same, List.map_append] <;> rfl
        · rw [upd_ne fT]
          exact ef7
        · rcases List.mem_append.mp m with m | m
          · obtain ⟨ys, e, d⟩ := told7 p m
            refine ⟨ys, ?_, d⟩
            rw [upd_ne (show p ≠ T from fun z => nin (z ▸ m))]
            exact e
          · rw [List.mem_singleton.mp m]
            refine ⟨xs, ?_, tL⟩
            rw [upd_ne LT]
            exact eL
    clear told7 told1 nin l2 pl2 eT eT7
    rintro σ H8 ⟨rs, rfl, eT8, ef8, told8, l2⟩
    refine cut (fun σ' H' => ∃ w : V, σ' = [some (.ref a), some (.ref f), some (.ref T), some v, some w, none, none] ∧ Same H8 H' ∧ ((w = .non ∧ allF (low t b).1 (low t b).2 11 4 = []) ∨ ∃ (q : Addr) (r0 : List Int) (rest : List (List Int)), w = .ref q ∧ allF (low t b).1 (low t b).2 11 4 = r0 :: rest ∧ H' q = some (.lst (r0.map V.int)))) (fun R D k => ?_) ?_
    · refine ⟨_, rfl, f, t, b, 11, rfl, SqT.of ef8, by omega, by decide, by decide, fun z => absurd z (by omega), fun _ _ z => absurd z (by omega), fun _ _ H9 s9 => ⟨fun no => ?_, fun r0 rest e q nq eq => ?_⟩⟩
      · exact k _ _ ⟨_, rfl, s9, .inl ⟨rfl, no⟩⟩
      · exact k _ _ ⟨_, rfl, s9, .inr ⟨q, r0, rest, rfl, e, eq⟩⟩
    rintro σ H9 ⟨w2, rfl, s9, hw⟩
    have eT9 := s9 _ _ eT8
    have ef9 := s9 _ _ ef8
    have told9 := told8.same s9
    refine ⟨_, rfl, T, rfl, ⟨_, SqL.of eT9⟩, for_list (K := K) (a := T) (xs := rs.map V.ref) (fun i σ H' => Same H9 H' ∧ ∃ v5 v6 : Option V, σ = [some (.ref a), some (.ref f), some (.ref T), some v, some w2, v5, v6]) ⟨Same.refl _, none, none, rfl⟩ (fun i σ H' _ h => SqL.of (h.1 _ _ eT9)) ?_ ?_⟩
    · rintro i y σ HA hy ⟨sA, v5, v6, rfl⟩
      obtain ⟨p, ep, rfl⟩ := of_get_map hy
      obtain ⟨xs, exs, tx⟩ := told9 p (List.mem_of_getElem? ep)
      obtain ⟨ys, n, rfl⟩ : ∃ l x, xs = l ++ [x] := ⟨xs.dropLast, xs.getLast tx.ne, (List.dropLast_concat_getLast tx.ne).symm⟩
      have en : atI ((ys ++ [n]).map V.int) (-1) = some (.int n) := by
        rw [List.map_append]
        exact atI_last _ _
      have z9 : Sz 9000 b := zb.mono
      have ok := tx.ok
      have exA := sA _ _ exs
      have efA := sA _ _ ef9
      show tSeq (tIfS _ _ _) _ _ [some (.ref a), some (.ref f), some (.ref T), some v, some w2, some (.ref p), v6] HA
      refine cut (fun σ' H' => σ' = [some (.ref a), some (.ref f), some (.ref T), some v, some w2, some (.ref p), v6] ∧ Same HA H') (fun R D k => ?_) ?_
      · refine ⟨_, rfl, _, rfl, p, _, rfl, .inl (SqL.of exA), fun l nl => ⟨f, l, t, b, ys ++ [n], rfl, SqT.of (same_new nl _ _ efA), SqL.of upd_same, ok, z9, fun z => absurd z (by omega), fun _ _ HB sB => ?_⟩⟩
        rw [decide_eq_true (show Ris (ys ++ [n]) ∧ lowS (ys ++ [n]) = low t b from ⟨tx.ris, tx.low (by omega)⟩)]
        have sAB := (same_new nl).trans sB
        have exB := sAB _ _ exA
        have efB := sAB _ _ efA
        refine ⟨_, _, rfl, rfl, _, rfl, ?_⟩
        show if (!true) = true then _ else _
        refine iteF ?_
        have := tx.few
        refine ⟨_, rfl, _, rfl, p, ys ++ [n], rfl, SqL.of exB, by omega, fun s c ns' hc => ?_⟩
        refine ⟨s, _, _, rfl, upd_same, by omega, fun zs q2 pw mem hl nq => ?_⟩
        have s9 := (same_new (o := SetO w s (fun j => decide (j ∈ ys ++ [n])) c) ns').trans (same_new (o := .lst (zs.map V.int)) nq)
        have eq2 : (upd (upd HB s (SetO w s (fun j => decide (j ∈ ys ++ [n])) c)) q2 (.lst (zs.map V.int))) q2 = some (.lst (zs.map V.int)) := upd_same
        have same : zs = ys ++ [n] := ris_uniq pw tx.ris fun k => by rw [mem k]; simp only [decide_eq_true_eq]
        refine ⟨_, _, dp_ints (SqL.of (s9 _ _ exB)), dp_ints (SqL.of eq2), shaped_ints _, shaped_ints _, _, rfl, ?_⟩
        rw [eqv_ints, decide_eq_true same.symm]
        show if (!true) = true then _ else _
        refine iteF ?_
        refine ⟨_, rfl, _, rfl, p, f, ys ++ [n], t, b, rfl, SqL.of (s9 _ _ exB), SqT.of (s9 _ _ efB), ok, zt, zb, _, rfl, ?_⟩
        rw [decide_eq_true tx.comes]
        show if (!true) = true then _ else _
        refine iteF ?_
        exact k _ _ ⟨rfl, sAB.trans s9⟩
      rintro σ HB ⟨rfl, sAB⟩
      have exB := sAB _ _ exA
      have efB := sAB _ _ efA
      have sB := sA.trans sAB
      refine cut (fun σ' H' => σ' = [some (.ref a), some (.ref f), some (.ref T), some v, some w2, some (.ref p), v6] ∧ H' = HB) (fun R D k => ?_) ?_
      · refine ⟨_, rfl, _, rfl, p, _, _, _, rfl, rfl, SqL.of exB, en, _, _, rfl, rfl, _, rfl, ite2 (fun z1 => ?_) (fun z1 => ?_)⟩
        · have z1 : n < 12 := of_decide_eq_true z1
          refine ⟨_, rfl, p, _, rfl, .inl (SqL.of exB), _, _, rfl, rfl, _, rfl, ite2 (fun z2 => ?_) (fun z2 => ?_)⟩
          · have z2 := of_decide_eq_true z2
            rw [List.length_map] at z2
            have inn := tld_in h1 h2 tx z1 (by omega)
            rcases hw with ⟨rfl, no⟩ | ⟨q, r0, rest, rfl, e0, eq0⟩
            · rw [no] at inn
              cases inn
            · have le := first_least lt lb e0 inn
              refine ⟨_, rfl, rfl, _, rfl, ?_⟩
              rw [decide_eq_false (fun z => nomatch z)]
              refine iteF ?_
              refine ⟨_, rfl, q, _, rfl, .inl (SqL.of (sB _ _ eq0)), _, rfl, p, _, rfl, .inl (SqL.of exB), _, _, rfl, rfl, _, rfl, ?_⟩
              rw [decide_eq_false (by rw [List.length_map, List.length_map]; omega)]
              exact k _ _ ⟨rfl, rfl⟩
          · exact k _ _ ⟨rfl, rfl⟩
        · exact k _ _ ⟨rfl, rfl⟩
      rintro σ H' ⟨rfl, rfl⟩
      obtain ⟨k1, k2, k3⟩ := tx.parted
      have zn : Sz 4000 n := by
        have := (ok.item (i := ys.length) (s := n) (by simp)).2
        exact this
      refine ⟨_, rfl, _, rfl, _, rfl, p, _, rfl, SqL.of exB, fun d nd => ⟨d, _, rfl, .inl (SqL.of upd_same), fun l nl => ?_⟩⟩
      rw [cut_last] at nl ⊢
      have sd := (same_new (o := .lst (ys.map V.int)) nd).trans (same_new (o := .lst (ys.map V.int)) nl)
      have el : (upd (upd H' d (.lst (ys.map V.int))) l (.lst (ys.map V.int))) l = some (.lst (ys.map V.int)) := upd_same
      generalize (upd (upd H' d (.lst (ys.map V.int))) l (.lst (ys.map V.int))) = HC at sd el ⊢
      refine ⟨_, rfl, _, rfl, p, _, _, _, rfl, rfl, SqL.of (sd _ _ exB), en, n, rfl, zn, fun HD u sD nu eu => ?_⟩
      have few := tx.few
      rw [List.length_append] at few
      simp only [List.length_cons, List.length_nil] at few
      refine ⟨l, u, _, _, rfl, rfl, sD _ _ el, eu, szl (by rw [List.length_map]; show ys.length + 2 ≤ _; omega), fun x nx => ?_⟩
      have ex : (upd HD x (.lst (ys.map V.int ++ [n + 1, n * (n + 1)].map V.int))) x = some (.lst ((ys ++ [n + 1, n * (n + 1)]).map V.int)) := by
        rw [upd_same, List.map_append]
      have sF := (sd.trans sD).trans (same_new (o := .lst (ys.map V.int ++ [n + 1, n * (n + 1)].map V.int)) nx)
      generalize (upd HD x (.lst (ys.map V.int ++ [n + 1, n * (n + 1)].map V.int))) = HE at ex sF ⊢
      have efE := sF _ _ efB
      refine ⟨_, rfl, _, rfl, x, _, rfl, .inl (SqL.of ex), fun l2 nl2 => ⟨f, l2, t, b, ys ++ [n + 1, n * (n + 1)], rfl, SqT.of (same_new nl2 _ _ efE), SqL.of upd_same, k1, z9, fun z => absurd z (by omega), fun _ _ HG sG => ?_⟩⟩
      have lw : lowS (ys ++ [n + 1, n * (n + 1)]) = low t b := low_uniq (by have := (sumS_pos _ k1.pos).2.1; omega) (by omega) k3
      rw [decide_eq_true (show Ris (ys ++ [n + 1, n * (n + 1)]) ∧ lowS (ys ++ [n + 1, n * (n + 1)]) = low t b from ⟨k2, lw⟩)]
      have sH := (same_new nl2).trans sG
      refine ⟨_, _, rfl, rfl, _, rfl, ?_⟩
      show if (!true) = true then _ else _
      refine iteF ?_
      refine ⟨_, rfl, _, rfl, x, f, _, t, b, rfl, SqL.of (sH _ _ ex), SqT.of (sH _ _ efE), k1, zt, zb, _, rfl, ?_⟩
      rw [decide_eq_true k3]
      show if (!true) = true then _ else _
      refine iteF ?_
      exact ⟨sB.trans (sF.trans sH), _, _, rfl⟩
    · rintro σ HA ⟨sA, v5, v6, rfl⟩
      refine ⟨_, rfl, T, _, rfl, .inl (SqL.of (sA _ _ eT9)), _, _, rfl, rfl, ?_⟩
      show Q (.bl (decide ((1 : Int) < (((rs.map V.ref).length : Nat) : Int)))) HA
      rw [decide_eq_true (by rw [List.length_map]; omega)]
      exact kq _

end

theorem all_mk {l : PySem.W.OpenLaw} {w : World} {K : PySem.W.Frag} {h : Heap} {mg : Str → Option Value} {fa : Addr} (X : K.In h) (G : h.Ns mainGlobals mg) (hfa : mg "law" = some (.ref fa))
    {f0 : Addr} {od0 an0 : Option Addr} {sl0 : Array (Option Value)} {oc0 kV0 dc0 pm0 cd0 ct0 : Value}
    {f1 : Addr} {od1 an1 : Option Addr} {sl1 : Array (Option Value)} {oc1 kV1 dc1 pm1 cd1 ct1 : Value}
    {f2 : Addr} {od2 an2 : Option Addr} {sl2 : Array (Option Value)} {oc2 kV2 dc2 pm2 cd2 ct2 : Value}
    {f3 : Addr} {od3 an3 : Option Addr} {sl3 : Array (Option Value)} {oc3 kV3 dc3 pm3 cd3 ct3 : Value}
    {f4 : Addr} {od4 an4 : Option Addr} {sl4 : Array (Option Value)} {oc4 kV4 dc4 pm4 cd4 ct4 : Value}
    {f5 : Addr} {od5 an5 : Option Addr} {sl5 : Array (Option Value)} {oc5 kV5 dc5 pm5 cd5 ct5 : Value}
    {f6 : Addr} {od6 an6 : Option Addr} {sl6 : Array (Option Value)} {oc6 kV6 dc6 pm6 cd6 ct6 : Value}
    {f7 : Addr} {od7 an7 : Option Addr} {sl7 : Array (Option Value)} {oc7 kV7 dc7 pm7 cd7 ct7 : Value}
    {f8 : Addr} {od8 an8 : Option Addr} {sl8 : Array (Option Value)} {oc8 kV8 dc8 pm8 cd8 ct8 : Value}
    {f9 : Addr} {od9 an9 : Option Addr} {sl9 : Array (Option Value)} {oc9 kV9 dc9 pm9 cd9 ct9 : Value}
    {f10 : Addr} {od10 an10 : Option Addr} {sl10 : Array (Option Value)} {oc10 kV10 dc10 pm10 cd10 ct10 : Value}
    {f11 : Addr} {od11 an11 : Option Addr} {sl11 : Array (Option Value)} {oc11 kV11 dc11 pm11 cd11 ct11 : Value}
    {f12 : Addr} {od12 an12 : Option Addr} {sl12 : Array (Option Value)} {oc12 kV12 dc12 pm12 cd12 ct12 : Value}
    {f13 : Addr} {od13 an13 : Option Addr} {sl13 : Array (Option Value)} {oc13 kV13 dc13 pm13 cd13 ct13 : Value}
    {f14 : Addr} {od14 an14 : Option Addr} {sl14 : Array (Option Value)} {oc14 kV14 dc14 pm14 cd14 ct14 : Value}
    {f15 : Addr} {od15 an15 : Option Addr} {sl15 : Array (Option Value)} {oc15 kV15 dc15 pm15 cd15 ct15 : Value}
    {f16 : Addr} {od16 an16 : Option Addr} {sl16 : Array (Option Value)} {oc16 kV16 dc16 pm16 cd16 ct16 : Value}
    {f17 : Addr} {od17 an17 : Option Addr} {sl17 : Array (Option Value)} {oc17 kV17 dc17 pm17 cd17 ct17 : Value}
    {f18 : Addr} {od18 an18 : Option Addr} {sl18 : Array (Option Value)} {oc18 kV18 dc18 pm18 cd18 ct18 : Value}
    {f19 : Addr} {od19 an19 : Option Addr} {sl19 : Array (Option Value)} {oc19 kV19 dc19 pm19 cd19 ct19 : Value}
    {f20 : Addr} {od20 an20 : Option Addr} {sl20 : Array (Option Value)} {oc20 kV20 dc20 pm20 cd20 ct20 : Value}
    {f21 : Addr} {od21 an21 : Option Addr} {sl21 : Array (Option Value)} {oc21 kV21 dc21 pm21 cd21 ct21 : Value}
    {f22 : Addr} {od22 an22 : Option Addr} {sl22 : Array (Option Value)} {oc22 kV22 dc22 pm22 cd22 ct22 : Value}
    {f23 : Addr} {od23 an23 : Option Addr} {sl23 : Array (Option Value)} {oc23 kV23 dc23 pm23 cd23 ct23 : Value}
    {f24 : Addr} {od24 an24 : Option Addr} {sl24 : Array (Option Value)} {oc24 kV24 dc24 pm24 cd24 ct24 : Value}
    {f25 : Addr} {od25 an25 : Option Addr} {sl25 : Array (Option Value)} {oc25 kV25 dc25 pm25 cd25 ct25 : Value}
    {tk_MOST : Tok}
    {CShareError : Addr}
    {CNoFraction : Addr}
    {CNotBelow : Addr}
    {CTooGreat : Addr}
    (a0 : PySem.W.nsIn K mainGlobals "see" = some (some (.ref f0)))
    (l0 : K.lookup f0 = some ⟨oc0, od0, .func (PySem.W.fnOf "see" "see" (defArgs s_see) (defBody s_see) (defScope s_see) .none kV0 dc0 pm0 an0 cd0 ct0), sl0⟩)
    (c0 : PySem.W.codeIn K cd0 "see" = true)
    (k0 : PySem.W.keepIn K (.ref f0) = true)
    (a1 : PySem.W.nsIn K mainGlobals "common" = some (some (.ref f1)))
    (l1 : K.lookup f1 = some ⟨oc1, od1, .func (PySem.W.fnOf "common" "common" (defArgs s_common) (defBody s_common) (defScope s_common) .none kV1 dc1 pm1 an1 cd1 ct1), sl1⟩)
    (c1 : PySem.W.codeIn K cd1 "common" = true)
    (k1 : PySem.W.keepIn K (.ref f1) = true)
    (a2 : PySem.W.nsIn K mainGlobals "lowest" = some (some (.ref f2)))
    (l2 : K.lookup f2 = some ⟨oc2, od2, .func (PySem.W.fnOf "lowest" "lowest" (defArgs s_lowest) (defBody s_lowest) (defScope s_lowest) .none kV2 dc2 pm2 an2 cd2 ct2), sl2⟩)
    (c2 : PySem.W.codeIn K cd2 "lowest" = true)
    (k2 : PySem.W.keepIn K (.ref f2) = true)
    (a3 : PySem.W.nsIn K mainGlobals "added" = some (some (.ref f3)))
    (l3 : K.lookup f3 = some ⟨oc3, od3, .func (PySem.W.fnOf "added" "added" (defArgs s_added) (defBody s_added) (defScope s_added) .none kV3 dc3 pm3 an3 cd3 ct3), sl3⟩)
    (c3 : PySem.W.codeIn K cd3 "added" = true)
    (k3 : PySem.W.keepIn K (.ref f3) = true)
    (a4 : PySem.W.nsIn K mainGlobals "less" = some (some (.ref f4)))
    (l4 : K.lookup f4 = some ⟨oc4, od4, .func (PySem.W.fnOf "less" "less" (defArgs s_less) (defBody s_less) (defScope s_less) .none kV4 dc4 pm4 an4 cd4 ct4), sl4⟩)
    (c4 : PySem.W.codeIn K cd4 "less" = true)
    (k4 : PySem.W.keepIn K (.ref f4) = true)
    (a5 : PySem.W.nsIn K mainGlobals "taken" = some (some (.ref f5)))
    (l5 : K.lookup f5 = some ⟨oc5, od5, .func (PySem.W.fnOf "taken" "taken" (defArgs s_taken) (defBody s_taken) (defScope s_taken) .none kV5 dc5 pm5 an5 cd5 ct5), sl5⟩)
    (c5 : PySem.W.codeIn K cd5 "taken" = true)
    (k5 : PySem.W.keepIn K (.ref f5) = true)
    (a6 : PySem.W.nsIn K mainGlobals "sum_of" = some (some (.ref f6)))
    (l6 : K.lookup f6 = some ⟨oc6, od6, .func (PySem.W.fnOf "sum_of" "sum_of" (defArgs s_sum_of) (defBody s_sum_of) (defScope s_sum_of) .none kV6 dc6 pm6 an6 cd6 ct6), sl6⟩)
    (c6 : PySem.W.codeIn K cd6 "sum_of" = true)
    (k6 : PySem.W.keepIn K (.ref f6) = true)
    (a7 : PySem.W.nsIn K mainGlobals "is_way" = some (some (.ref f7)))
    (l7 : K.lookup f7 = some ⟨oc7, od7, .func (PySem.W.fnOf "is_way" "is_way" (defArgs s_is_way) (defBody s_is_way) (defScope s_is_way) .none kV7 dc7 pm7 an7 cd7 ct7), sl7⟩)
    (c7 : PySem.W.codeIn K cd7 "is_way" = true)
    (k7 : PySem.W.keepIn K (.ref f7) = true)
    (a8 : PySem.W.nsIn K mainGlobals "see_below" = some (some (.ref f8)))
    (l8 : K.lookup f8 = some ⟨oc8, od8, .func (PySem.W.fnOf "see_below" "see_below" (defArgs s_see_below) (defBody s_see_below) (defScope s_see_below) .none kV8 dc8 pm8 an8 cd8 ct8), sl8⟩)
    (c8 : PySem.W.codeIn K cd8 "see_below" = true)
    (k8 : PySem.W.keepIn K (.ref f8) = true)
    (a9 : PySem.W.nsIn K mainGlobals "see_share" = some (some (.ref f9)))
    (l9 : K.lookup f9 = some ⟨oc9, od9, .func (PySem.W.fnOf "see_share" "see_share" (defArgs s_see_share) (defBody s_see_share) (defScope s_see_share) .none kV9 dc9 pm9 an9 cd9 ct9), sl9⟩)
    (c9 : PySem.W.codeIn K cd9 "see_share" = true)
    (k9 : PySem.W.keepIn K (.ref f9) = true)
    (a10 : PySem.W.nsIn K mainGlobals "up" = some (some (.ref f10)))
    (l10 : K.lookup f10 = some ⟨oc10, od10, .func (PySem.W.fnOf "up" "up" (defArgs s_up) (defBody s_up) (defScope s_up) .none kV10 dc10 pm10 an10 cd10 ct10), sl10⟩)
    (c10 : PySem.W.codeIn K cd10 "up" = true)
    (k10 : PySem.W.keepIn K (.ref f10) = true)
    (a11 : PySem.W.nsIn K mainGlobals "greatest_first" = some (some (.ref f11)))
    (l11 : K.lookup f11 = some ⟨oc11, od11, .func (PySem.W.fnOf "greatest_first" "greatest_first" (defArgs s_greatest_first) (defBody s_greatest_first) (defScope s_greatest_first) .none kV11 dc11 pm11 an11 cd11 ct11), sl11⟩)
    (c11 : PySem.W.codeIn K cd11 "greatest_first" = true)
    (k11 : PySem.W.keepIn K (.ref f11) = true)
    (a12 : PySem.W.nsIn K mainGlobals "rising_factors" = some (some (.ref f12)))
    (l12 : K.lookup f12 = some ⟨oc12, od12, .func (PySem.W.fnOf "rising_factors" "rising_factors" (defArgs s_rising_factors) (defBody s_rising_factors) (defScope s_rising_factors) .none kV12 dc12 pm12 an12 cd12 ct12), sl12⟩)
    (c12 : PySem.W.codeIn K cd12 "rising_factors" = true)
    (k12 : PySem.W.keepIn K (.ref f12) = true)
    (a13 : PySem.W.nsIn K mainGlobals "rising" = some (some (.ref f13)))
    (l13 : K.lookup f13 = some ⟨oc13, od13, .func (PySem.W.fnOf "rising" "rising" (defArgs s_rising) (defBody s_rising) (defScope s_rising) .none kV13 dc13 pm13 an13 cd13 ct13), sl13⟩)
    (c13 : PySem.W.codeIn K cd13 "rising" = true)
    (k13 : PySem.W.keepIn K (.ref f13) = true)
    (a14 : PySem.W.nsIn K mainGlobals "split" = some (some (.ref f14)))
    (l14 : K.lookup f14 = some ⟨oc14, od14, .func (PySem.W.fnOf "split" "split" (defArgs s_split) (defBody s_split) (defScope s_split) .none kV14 dc14 pm14 an14 cd14 ct14), sl14⟩)
    (c14 : PySem.W.codeIn K cd14 "split" = true)
    (k14 : PySem.W.keepIn K (.ref f14) = true)
    (a15 : PySem.W.nsIn K mainGlobals "ways_of" = some (some (.ref f15)))
    (l15 : K.lookup f15 = some ⟨oc15, od15, .func (PySem.W.fnOf "ways_of" "ways_of" (defArgs s_ways_of) (defBody s_ways_of) (defScope s_ways_of) .none kV15 dc15 pm15 an15 cd15 ct15), sl15⟩)
    (c15 : PySem.W.codeIn K cd15 "ways_of" = true)
    (k15 : PySem.W.keepIn K (.ref f15) = true)
    (a16 : PySem.W.nsIn K mainGlobals "all_ways" = some (some (.ref f16)))
    (l16 : K.lookup f16 = some ⟨oc16, od16, .func (PySem.W.fnOf "all_ways" "all_ways" (defArgs s_all_ways) (defBody s_all_ways) (defScope s_all_ways) .none kV16 dc16 pm16 an16 cd16 ct16), sl16⟩)
    (c16 : PySem.W.codeIn K cd16 "all_ways" = true)
    (k16 : PySem.W.keepIn K (.ref f16) = true)
    (a17 : PySem.W.nsIn K mainGlobals "fewest" = some (some (.ref f17)))
    (l17 : K.lookup f17 = some ⟨oc17, od17, .func (PySem.W.fnOf "fewest" "fewest" (defArgs s_fewest) (defBody s_fewest) (defScope s_fewest) .none kV17 dc17 pm17 an17 cd17 ct17), sl17⟩)
    (c17 : PySem.W.codeIn K cd17 "fewest" = true)
    (k17 : PySem.W.keepIn K (.ref f17) = true)
    (a18 : PySem.W.nsIn K mainGlobals "divisors" = some (some (.ref f18)))
    (l18 : K.lookup f18 = some ⟨oc18, od18, .func (PySem.W.fnOf "divisors" "divisors" (defArgs s_divisors) (defBody s_divisors) (defScope s_divisors) .none kV18 dc18 pm18 an18 cd18 ct18), sl18⟩)
    (c18 : PySem.W.codeIn K cd18 "divisors" = true)
    (k18 : PySem.W.keepIn K (.ref f18) = true)
    (a19 : PySem.W.nsIn K mainGlobals "sums_of" = some (some (.ref f19)))
    (l19 : K.lookup f19 = some ⟨oc19, od19, .func (PySem.W.fnOf "sums_of" "sums_of" (defArgs s_sums_of) (defBody s_sums_of) (defScope s_sums_of) .none kV19 dc19 pm19 an19 cd19 ct19), sl19⟩)
    (c19 : PySem.W.codeIn K cd19 "sums_of" = true)
    (k19 : PySem.W.keepIn K (.ref f19) = true)
    (a20 : PySem.W.nsIn K mainGlobals "parts" = some (some (.ref f20)))
    (l20 : K.lookup f20 = some ⟨oc20, od20, .func (PySem.W.fnOf "parts" "parts" (defArgs s_parts) (defBody s_parts) (defScope s_parts) .none kV20 dc20 pm20 an20 cd20 ct20), sl20⟩)
    (c20 : PySem.W.codeIn K cd20 "parts" = true)
    (k20 : PySem.W.keepIn K (.ref f20) = true)
    (a21 : PySem.W.nsIn K mainGlobals "goes_by" = some (some (.ref f21)))
    (l21 : K.lookup f21 = some ⟨oc21, od21, .func (PySem.W.fnOf "goes_by" "goes_by" (defArgs s_goes_by) (defBody s_goes_by) (defScope s_goes_by) .none kV21 dc21 pm21 an21 cd21 ct21), sl21⟩)
    (c21 : PySem.W.codeIn K cd21 "goes_by" = true)
    (k21 : PySem.W.keepIn K (.ref f21) = true)
    (a22 : PySem.W.nsIn K mainGlobals "_law_cell_at" = some (some (.ref f22)))
    (l22 : K.lookup f22 = some ⟨oc22, od22, .func (PySem.W.fnOf "_law_cell_at" "_law_cell_at" (defArgs s_law_cell_at) (defBody s_law_cell_at) (defScope s_law_cell_at) .none kV22 dc22 pm22 an22 cd22 ct22), sl22⟩)
    (c22 : PySem.W.codeIn K cd22 "_law_cell_at" = true)
    (k22 : PySem.W.keepIn K (.ref f22) = true)
    (a23 : PySem.W.nsIn K mainGlobals "_law_comes" = some (some (.ref f23)))
    (l23 : K.lookup f23 = some ⟨oc23, od23, .func (PySem.W.fnOf "_law_comes" "_law_comes" (defArgs s_law_comes) (defBody s_law_comes) (defScope s_law_comes) .none kV23 dc23 pm23 an23 cd23 ct23), sl23⟩)
    (c23 : PySem.W.codeIn K cd23 "_law_comes" = true)
    (k23 : PySem.W.keepIn K (.ref f23) = true)
    (a24 : PySem.W.nsIn K mainGlobals "_law_small" = some (some (.ref f24)))
    (l24 : K.lookup f24 = some ⟨oc24, od24, .func (PySem.W.fnOf "_law_small" "_law_small" (defArgs s_law_small) (defBody s_law_small) (defScope s_law_small) .none kV24 dc24 pm24 an24 cd24 ct24), sl24⟩)
    (c24 : PySem.W.codeIn K cd24 "_law_small" = true)
    (k24 : PySem.W.keepIn K (.ref f24) = true)
    (a25 : PySem.W.nsIn K mainGlobals "law" = some (some (.ref f25)))
    (l25 : K.lookup f25 = some ⟨oc25, od25, .func (PySem.W.fnOf "law" "law" (defArgs s_law) (defBody s_law) (defScope s_law) .none kV25 dc25 pm25 an25 cd25 ct25), sl25⟩)
    (c25 : PySem.W.codeIn K cd25 "law" = true)
    (k25 : PySem.W.keepIn K (.ref f25) = true)
    (z0 : PySem.W.nsIn K mainGlobals "len" = some none)
    (z1 : PySem.W.nsIn K mainGlobals "range" = some none)
    (z2 : PySem.W.nsIn K mainGlobals "min" = some none)
    (z3 : PySem.W.nsIn K mainGlobals "max" = some none)
    (z4 : PySem.W.nsIn K mainGlobals "sum" = some none)
    (z5 : PySem.W.nsIn K mainGlobals "sorted" = some none)
    (z6 : PySem.W.nsIn K mainGlobals "set" = some none)
    (z7 : PySem.W.nsIn K mainGlobals "dict" = some none)
    (z8 : PySem.W.nsIn K mainGlobals "list" = some none)
    (z9 : PySem.W.nsIn K mainGlobals "str" = some none)
    (z10 : PySem.W.nsIn K mainGlobals "int" = some none)
    (z11 : PySem.W.nsIn K mainGlobals "isinstance" = some none)
    (z12 : PySem.W.nsIn K mainGlobals "bool" = some none)
    (z13 : PySem.W.nsIn K mainGlobals "tuple" = some none)
    (z14 : PySem.W.nsIn K mainGlobals "ValueError" = some none)
    (q_MOST : PySem.W.nsIn K mainGlobals "MOST" = some (some (.int 400 tk_MOST)))
    (nShareError : PySem.W.nsIn K mainGlobals "ShareError" = some (some (.ref CShareError)))
    (e0ShareError : PySem.W.excIn K CShareError veT "ValueError.__new__" = true)
    (e1ShareError : PySem.W.keepIn K (.ref CShareError) = true)
    (e2ShareError : PySem.W.subIn K (.ref CShareError) (.type "BaseException") = some true)
    (e3ShareError : PySem.W.typeIn K (.ref CShareError) = some (.type "type"))
    (nNoFraction : PySem.W.nsIn K mainGlobals "NoFraction" = some (some (.ref CNoFraction)))
    (e0NoFraction : PySem.W.excIn K CNoFraction veT "ValueError.__new__" = true)
    (e1NoFraction : PySem.W.keepIn K (.ref CNoFraction) = true)
    (e2NoFraction : PySem.W.subIn K (.ref CNoFraction) (.type "BaseException") = some true)
    (e3NoFraction : PySem.W.typeIn K (.ref CNoFraction) = some (.type "type"))
    (nNotBelow : PySem.W.nsIn K mainGlobals "NotBelow" = some (some (.ref CNotBelow)))
    (e0NotBelow : PySem.W.excIn K CNotBelow veT "ValueError.__new__" = true)
    (e1NotBelow : PySem.W.keepIn K (.ref CNotBelow) = true)
    (e2NotBelow : PySem.W.subIn K (.ref CNotBelow) (.type "BaseException") = some true)
    (e3NotBelow : PySem.W.typeIn K (.ref CNotBelow) = some (.type "type"))
    (nTooGreat : PySem.W.nsIn K mainGlobals "TooGreat" = some (some (.ref CTooGreat)))
    (e0TooGreat : PySem.W.excIn K CTooGreat veT "ValueError.__new__" = true)
    (e1TooGreat : PySem.W.keepIn K (.ref CTooGreat) = true)
    (e2TooGreat : PySem.W.subIn K (.ref CTooGreat) (.type "BaseException") = some true)
    (e3TooGreat : PySem.W.typeIn K (.ref CTooGreat) = some (.type "type"))
    (zdig : PySem.W.nsIn K cStatics "sys.int_max_str_digits" = some none)
    : ∃ fd : FuncData, (∀ (s : Shared) (v : Value), BindsTo s fd ⟨[v], []⟩ [("script", v)]) ∧ ∀ base : Heap, K.In base → base.Ns mainGlobals mg → FnOk l.prog w K mg base CX0 11 fa fd ["script"] (sp_law K) := by
  have ef := hfa.symm.trans (PySem.W.mg_of X G a25)
  cases ef
  have B : Bi mg := ⟨PySem.W.mg_none_of X G z0, PySem.W.mg_none_of X G z1, PySem.W.mg_none_of X G z2, PySem.W.mg_none_of X G z3, PySem.W.mg_none_of X G z4, PySem.W.mg_none_of X G z5, PySem.W.mg_none_of X G z6, PySem.W.mg_none_of X G z7, PySem.W.mg_none_of X G z8, PySem.W.mg_none_of X G z9, PySem.W.mg_none_of X G z10, PySem.W.mg_none_of X G z11, PySem.W.mg_none_of X G z12, PySem.W.mg_none_of X G z13, PySem.W.mg_none_of X G z14⟩
  have Er : ErrOk K mg ⟨CShareError, CNoFraction, CNotBelow, CTooGreat, 0, 0⟩ := ⟨⟨PySem.W.mg_of X G nShareError, e0ShareError, e1ShareError, e2ShareError, e3ShareError⟩, ⟨PySem.W.mg_of X G nNoFraction, e0NoFraction, e1NoFraction, e2NoFraction, e3NoFraction⟩, ⟨PySem.W.mg_of X G nNotBelow, e0NotBelow, e1NotBelow, e2NotBelow, e3NotBelow⟩, ⟨PySem.W.mg_of X G nTooGreat, e0TooGreat, e1TooGreat, e2TooGreat, e3TooGreat⟩, zdig⟩
  have S_see : Stands K mg "see" s_see := ⟨_, _, fun_mk (st := s_see) l0 c0 k0, PySem.W.mg_of X G a0⟩
  have S_common : Stands K mg "common" s_common := ⟨_, _, fun_mk (st := s_common) l1 c1 k1, PySem.W.mg_of X G a1⟩
  have S_lowest : Stands K mg "lowest" s_lowest := ⟨_, _, fun_mk (st := s_lowest) l2 c2 k2, PySem.W.mg_of X G a2⟩
  have S_added : Stands K mg "added" s_added := ⟨_, _, fun_mk (st := s_added) l3 c3 k3, PySem.W.mg_of X G a3⟩
  have S_less : Stands K mg "less" s_less := ⟨_, _, fun_mk (st := s_less) l4 c4 k4, PySem.W.mg_of X G a4⟩
  have S_taken : Stands K mg "taken" s_taken := ⟨_, _, fun_mk (st := s_taken) l5 c5 k5, PySem.W.mg_of X G a5⟩
  have S_sum_of : Stands K mg "sum_of" s_sum_of := ⟨_, _, fun_mk (st := s_sum_of) l6 c6 k6, PySem.W.mg_of X G a6⟩
  have S_is_way : Stands K mg "is_way" s_is_way := ⟨_, _, fun_mk (st := s_is_way) l7 c7 k7, PySem.W.mg_of X G a7⟩
  have S_see_below : Stands K mg "see_below" s_see_below := ⟨_, _, fun_mk (st := s_see_below) l8 c8 k8, PySem.W.mg_of X G a8⟩
  have S_see_share : Stands K mg "see_share" s_see_share := ⟨_, _, fun_mk (st := s_see_share) l9 c9 k9, PySem.W.mg_of X G a9⟩
  have S_up : Stands K mg "up" s_up := ⟨_, _, fun_mk (st := s_up) l10 c10 k10, PySem.W.mg_of X G a10⟩
  have S_greatest_first : Stands K mg "greatest_first" s_greatest_first := ⟨_, _, fun_mk (st := s_greatest_first) l11 c11 k11, PySem.W.mg_of X G a11⟩
  have S_rising_factors : Stands K mg "rising_factors" s_rising_factors := ⟨_, _, fun_mk (st := s_rising_factors) l12 c12 k12, PySem.W.mg_of X G a12⟩
  have S_rising : Stands K mg "rising" s_rising := ⟨_, _, fun_mk (st := s_rising) l13 c13 k13, PySem.W.mg_of X G a13⟩
  have S_split : Stands K mg "split" s_split := ⟨_, _, fun_mk (st := s_split) l14 c14 k14, PySem.W.mg_of X G a14⟩
  have S_ways_of : Stands K mg "ways_of" s_ways_of := ⟨_, _, fun_mk (st := s_ways_of) l15 c15 k15, PySem.W.mg_of X G a15⟩
  have S_all_ways : Stands K mg "all_ways" s_all_ways := ⟨_, _, fun_mk (st := s_all_ways) l16 c16 k16, PySem.W.mg_of X G a16⟩
  have S_fewest : Stands K mg "fewest" s_fewest := ⟨_, _, fun_mk (st := s_fewest) l17 c17 k17, PySem.W.mg_of X G a17⟩
  have S_divisors : Stands K mg "divisors" s_divisors := ⟨_, _, fun_mk (st := s_divisors) l18 c18 k18, PySem.W.mg_of X G a18⟩
  have S_sums_of : Stands K mg "sums_of" s_sums_of := ⟨_, _, fun_mk (st := s_sums_of) l19 c19 k19, PySem.W.mg_of X G a19⟩
  have S_parts : Stands K mg "parts" s_parts := ⟨_, _, fun_mk (st := s_parts) l20 c20 k20, PySem.W.mg_of X G a20⟩
  have S_goes_by : Stands K mg "goes_by" s_goes_by := ⟨_, _, fun_mk (st := s_goes_by) l21 c21 k21, PySem.W.mg_of X G a21⟩
  have S_law_cell_at : Stands K mg "_law_cell_at" s_law_cell_at := ⟨_, _, fun_mk (st := s_law_cell_at) l22 c22 k22, PySem.W.mg_of X G a22⟩
  have S_law_comes : Stands K mg "_law_comes" s_law_comes := ⟨_, _, fun_mk (st := s_law_comes) l23 c23 k23, PySem.W.mg_of X G a23⟩
  have S_law_small : Stands K mg "_law_small" s_law_small := ⟨_, _, fun_mk (st := s_law_small) l24 c24 k24, PySem.W.mg_of X G a24⟩
  refine ⟨PySem.W.fnOf "law" "law" (defArgs s_law) (defBody s_law) (defScope s_law) .none kV25 dc25 pm25 an25 cd25 ct25, fun s v => .of_eq rfl, fun base _ _ => ?_⟩
  have O_see := ok_see (P := l.prog) (w := w) (base := base) S_see B Er 
  have O_common := ok_common (P := l.prog) (w := w) (base := base) S_common B Er 
  have O_lowest := ok_lowest (P := l.prog) (w := w) (base := base) S_lowest B Er O_see O_common
  have O_added := ok_added (P := l.prog) (w := w) (base := base) S_added B Er O_see O_lowest
  have O_less := ok_less (P := l.prog) (w := w) (base := base) S_less B Er O_see
  have O_taken := ok_taken (P := l.prog) (w := w) (base := base) S_taken B Er O_less O_lowest
  have O_sum_of := ok_sum_of (P := l.prog) (w := w) (base := base) S_sum_of B Er O_added
  have O_is_way := ok_is_way (P := l.prog) (w := w) (base := base) S_is_way B Er O_see O_sum_of O_lowest
  have O_see_below := ok_see_below (P := l.prog) (w := w) (base := base) S_see_below B Er O_see
  have O_see_share := ok_see_share (P := l.prog) (w := w) (base := base) S_see_share B Er ⟨_, PySem.W.mg_of X G q_MOST⟩
  have O_up := ok_up (P := l.prog) (w := w) (base := base) S_up B Er 
  have O_greatest_first := ok_greatest_first (P := l.prog) (w := w) (base := base) S_greatest_first B Er O_see_below O_lowest O_up O_see_share O_taken
  have O_rising_factors := ok_rising_factors (P := l.prog) (w := w) (base := base) S_rising_factors B Er O_see_below O_lowest O_up O_taken
  have O_rising := ok_rising (P := l.prog) (w := w) (base := base) S_rising B Er O_rising_factors
  have O_split := ok_split (P := l.prog) (w := w) (base := base) S_split B Er 
  have O_ways_of := ok_ways_of (P := l.prog) (w := w) (base := base) S_ways_of B Er O_up O_taken
  have O_all_ways := ok_all_ways (P := l.prog) (w := w) (base := base) S_all_ways B Er O_see_below O_ways_of O_lowest
  have O_fewest := ok_fewest (P := l.prog) (w := w) (base := base) S_fewest B Er O_see_below O_ways_of O_lowest
  have O_divisors := ok_divisors (P := l.prog) (w := w) (base := base) S_divisors B Er 
  have O_sums_of := ok_sums_of (P := l.prog) (w := w) (base := base) S_sums_of B Er 
  have O_parts := ok_parts (P := l.prog) (w := w) (base := base) S_parts B Er O_divisors O_sums_of
  have O_goes_by := ok_goes_by (P := l.prog) (w := w) (base := base) S_goes_by B Er O_see_below O_lowest O_parts
  have O_law_cell_at := ok_law_cell_at (P := l.prog) (w := w) (base := base) S_law_cell_at B Er 
  have O_law_comes := ok_law_comes (P := l.prog) (w := w) (base := base) S_law_comes B Er 
  have O_law_small := ok_law_small (P := l.prog) (w := w) (base := base) S_law_small B Er O_law_cell_at
  exact ok_law (P := l.prog) (w := w) (base := base) (fun_mk (st := s_law) l25 c25 k25) B Er O_law_small O_goes_by O_fewest O_all_ways O_greatest_first O_rising O_split O_is_way O_law_comes
end U
open PySem PySem.W PyProof.Rows
set_option maxHeartbeats 0 in
theorem PySem.Challenge.cw_unitshares_k15_whole_all_are_ways_holds : PySem.Challenge.rw_unitshares_k15_whole_all_are_ways.Holds := by
  w_on; o_law; k_head; (case hw => w_witness2)
  k_fill
  refine L2.walk_of (l := PySem.Challenge.rw_unitshares_k15_whole_all_are_ways) (n := 63) (k := 11) (x := "script") (CX := fun _ => L2.CX0) (sp := fun w => U.sp_law _) rfl (by decide) rfl ⟨rfl, by decide, by decide⟩ (fun w h Y => PySem.W.kIn_of Y) ?F (fun _ _ a ns hl _ hS => ⟨a, ns, rfl, hS, hl, fun _ => rfl⟩) (fun _ _ _ _ _ h => h)
  case F =>
    intro w mg fa h KX G hmg
    refine' U.all_mk KX G hmg ?a0 ?l0 ?c0 ?k0 ?a1 ?l1 ?c1 ?k1 ?a2 ?l2 ?c2 ?k2 ?a3 ?l3 ?c3 ?k3 ?a4 ?l4 ?c4 ?k4 ?a5 ?l5 ?c5 ?k5 ?a6 ?l6 ?c6 ?k6 ?a7 ?l7 ?c7 ?k7 ?a8 ?l8 ?c8 ?k8 ?a9 ?l9 ?c9 ?k9 ?a10 ?l10 ?c10 ?k10 ?a11 ?l11 ?c11 ?k11 ?a12 ?l12 ?c12 ?k12 ?a13 ?l13 ?c13 ?k13 ?a14 ?l14 ?c14 ?k14 ?a15 ?l15 ?c15 ?k15 ?a16 ?l16 ?c16 ?k16 ?a17 ?l17 ?c17 ?k17 ?a18 ?l18 ?c18 ?k18 ?a19 ?l19 ?c19 ?k19 ?a20 ?l20 ?c20 ?k20 ?a21 ?l21 ?c21 ?k21 ?a22 ?l22 ?c22 ?k22 ?a23 ?l23 ?c23 ?k23 ?a24 ?l24 ?c24 ?k24 ?a25 ?l25 ?c25 ?k25 ?z0 ?z1 ?z2 ?z3 ?z4 ?z5 ?z6 ?z7 ?z8 ?z9 ?z10 ?z11 ?z12 ?z13 ?z14 ?q_MOST ?nShareError ?e0ShareError ?e1ShareError ?e2ShareError ?e3ShareError ?nNoFraction ?e0NoFraction ?e1NoFraction ?e2NoFraction ?e3NoFraction ?nNotBelow ?e0NotBelow ?e1NotBelow ?e2NotBelow ?e3NotBelow ?nTooGreat ?e0TooGreat ?e1TooGreat ?e2TooGreat ?e3TooGreat ?zdig
    (case a0 => k_is)
    (case l0 => k_is)
    (case c0 => k_is)
    (case k0 => k_is)
    (case a1 => k_is)
    (case l1 => k_is)
    (case c1 => k_is)
    (case k1 => k_is)
    (case a2 => k_is)
    (case l2 => k_is)
    (case c2 => k_is)
    (case k2 => k_is)
    (case a3 => k_is)
    (case l3 => k_is)
    (case c3 => k_is)
    (case k3 => k_is)
    (case a4 => k_is)
    (case l4 => k_is)
    (case c4 => k_is)
    (case k4 => k_is)
    (case a5 => k_is)
    (case l5 => k_is)
    (case c5 => k_is)
    (case k5 => k_is)
    (case a6 => k_is)
    (case l6 => k_is)
    (case c6 => k_is)
    (case k6 => k_is)
    (case a7 => k_is)
    (case l7 => k_is)
    (case c7 => k_is)
    (case k7 => k_is)
    (case a8 => k_is)
    (case l8 => k_is)
    (case c8 => k_is)
    (case k8 => k_is)
    (case a9 => k_is)
    (case l9 => k_is)
    (case c9 => k_is)
    (case k9 => k_is)
    (case a10 => k_is)
    (case l10 => k_is)
    (case c10 => k_is)
    (case k10 => k_is)
    (case a11 => k_is)
    (case l11 => k_is)
    (case c11 => k_is)
    (case k11 => k_is)
    (case a12 => k_is)
    (case l12 => k_is)
    (case c12 => k_is)
    (case k12 => k_is)
    (case a13 => k_is)
    (case l13 => k_is)
    (case c13 => k_is)
    (case k13 => k_is)
    (case a14 => k_is)
    (case l14 => k_is)
    (case c14 => k_is)
    (case k14 => k_is)
    (case a15 => k_is)
    (case l15 => k_is)
    (case c15 => k_is)
    (case k15 => k_is)
    (case a16 => k_is)
    (case l16 => k_is)
    (case c16 => k_is)
    (case k16 => k_is)
    (case a17 => k_is)
    (case l17 => k_is)
    (case c17 => k_is)
    (case k17 => k_is)
    (case a18 => k_is)
    (case l18 => k_is)
    (case c18 => k_is)
    (case k18 => k_is)
    (case a19 => k_is)
    (case l19 => k_is)
    (case c19 => k_is)
    (case k19 => k_is)
    (case a20 => k_is)
    (case l20 => k_is)
    (case c20 => k_is)
    (case k20 => k_is)
    (case a21 => k_is)
    (case l21 => k_is)
    (case c21 => k_is)
    (case k21 => k_is)
    (case a22 => k_is)
    (case l22 => k_is)
    (case c22 => k_is)
    (case k22 => k_is)
    (case a23 => k_is)
    (case l23 => k_is)
    (case c23 => k_is)
    (case k23 => k_is)
    (case a24 => k_is)
    (case l24 => k_is)
    (case c24 => k_is)
    (case k24 => k_is)
    (case a25 => k_is)
    (case l25 => k_is)
    (case c25 => k_is)
    (case k25 => k_is)
    (case z0 => k_is)
    (case z1 => k_is)
    (case z2 => k_is)
    (case z3 => k_is)
    (case z4 => k_is)
    (case z5 => k_is)
    (case z6 => k_is)
    (case z7 => k_is)
    (case z8 => k_is)
    (case z9 => k_is)
    (case z10 => k_is)
    (case z11 => k_is)
    (case z12 => k_is)
    (case z13 => k_is)
    (case z14 => k_is)
    (case q_MOST => k_is)
    (case nShareError => k_is)
    (case e0ShareError => k_exc)
    (case e1ShareError => k_is)
    (case e2ShareError => k_is)
    (case e3ShareError => k_is)
    (case nNoFraction => k_is)
    (case e0NoFraction => k_exc)
    (case e1NoFraction => k_is)
    (case e2NoFraction => k_is)
    (case e3NoFraction => k_is)
    (case nNotBelow => k_is)
    (case e0NotBelow => k_exc)
    (case e1NotBelow => k_is)
    (case e2NotBelow => k_is)
    (case e3NotBelow => k_is)
    (case nTooGreat => k_is)
    (case e0TooGreat => k_exc)
    (case e1TooGreat => k_is)
    (case e2TooGreat => k_is)
    (case e3TooGreat => k_is)
    (case zdig => k_is)
