import PyProof.Rows.All
import Wide.All
import OpenK.AllK
import Wide.FinOn
import HandS.ForMost
import HandS.ForExc
import HandS.More
import HandS.Wide
import HandS.WideBits
import HandS.IsInst
import HandS.SortInts
import HandS.SetFor
import HandS.Strs
import HandS.Zip
import HandS.Deep
import KE.DataCmp
import KE.SortData
import PySem.Challenge.RW_unitshares_k11_whole_all_ways
set_option Elab.async false
set_option linter.all false
set_option maxRecDepth 100000
set_option maxHeartbeats 4000000
namespace U
open PySem PySem.Spec PyProof.Rows L2
def topS (i : Nat) : Stmt := PySem.Challenge.pw_unitshares_k11_whole_all_ways.main.body.getD i (.Pass ⟨0, 0, 0, 0⟩)
/-! ### how a def, a class, a built-in stand -/
/-- the module's name x holds the def st -/
def Stands (K : PySem.W.Frag) (mg : Str → Option Value) (x : Str) (st : Stmt) : Prop := ∃ f fd, Fun K x x st f fd ∧ mg x = some (.ref f)
/-- the def x keeps the promise sp -/
def Keeps (P : Program) (w : World) (K : PySem.W.Frag) (mg : Str → Option Value) (base : Heap) (k : Nat) (x : Str) (ps : List Str) (sp : Sp) : Prop :=
  ∃ f fd, FnOk P w K mg base (L2.CX P w) k f fd ps sp ∧ Binds K fd ps [] ∧ mg x = some (.ref f) ∧ PySem.W.keepIn K (.ref f) = true
/-- nothing leaves, so whatever leaves is as one likes -/
theorem toX {P : Program} {w : World} {K : PySem.W.Frag} {mg : Str → Option Value} {base : Heap} {k : Nat} {f : Addr} {fd : FuncData} {ps : List Str} {sp : Sp} (F : FnOk P w K mg base CX0 k f fd ps sp) : FnOk P w K mg base (L2.CX P w) k f fd ps sp :=
  ⟨F.len, fun A outer s H args us vs Q E hr e0 hb r h => codeAny_mono (F.run A outer s H args us vs Q E hr e0 hb r h) fun r s' q => by
    cases r with
    | error e => exact False.elim q
    | ok fl => cases fl <;> exact q⟩
structure Bi (mg : Str → Option Value) : Prop where
  len : mg "len" = none
  range : mg "range" = none
  min : mg "min" = none
  max : mg "max" = none
  sum : mg "sum" = none
  sorted : mg "sorted" = none
  set : mg "set" = none
  dict : mg "dict" = none
  list : mg "list" = none
  str : mg "str" = none
  int : mg "int" = none
  isinstance : mg "isinstance" = none
  bool : mg "bool" = none
  tuple : mg "tuple" = none
  ValueError : mg "ValueError" = none
abbrev veT : List Value := [.type "ValueError", .type "Exception", .type "BaseException", .type "object"]
/-! ### heaps -/
theorem same_new {H : Hp} {p : Addr} {o : HO} (h : H p = none) : Same H (upd H p o) := fun b x e => by
  rw [upd_ne (ne_of_none e h)]
  exact e
/-- an object that H does not know is written -/
theorem same_mut {H H' : Hp} {p : Addr} {o : HO} (s : Same H H') (h : H p = none) : Same H (upd H' p o) := fun b x e => by
  rw [upd_ne (ne_of_none e h)]
  exact s b x e
theorem same_tup {K : PySem.W.Frag} {H H' : Hp} {a : Addr} {xs : List V} (e : Same H H') (h : SqT K H a xs) : SqT K H' a xs := by
  rcases h with (h | ⟨o, h⟩) | h
  · exact .inl (.inl (e _ _ h))
  · exact .inl (.inr ⟨o, e _ _ h⟩)
  · exact .inr h
theorem ty_list {K : PySem.W.Frag} {H : Hp} {a : Addr} {xs : List V} (h : SqL K H a xs) : TyX K H (.ref a) (.type "list") := by
  rcases h with (h | ⟨o, h⟩) | ⟨o, _, _, h, c, _⟩
  · exact .base (.lst h)
  · exact .base (.frz h)
  · exact .kList h c
theorem ty_tup {K : PySem.W.Frag} {H : Hp} {a : Addr} {xs : List V} (h : SqT K H a xs) : TyX K H (.ref a) (.type "tuple") := by
  rcases h with (h | ⟨o, h⟩) | ⟨o, _, _, h, c, _⟩
  · exact .base (.tup h)
  · exact .fTuple h
  · exact .kTuple h c
theorem szl {n : Nat} (h : n ≤ 16000000) : n ≤ sizeLine := Nat.le_trans h (by decide)
theorem szl_lt {n : Nat} (h : n < 16000000) : n < sizeLine := Nat.lt_of_lt_of_le h (by decide)
theorem get_map {α β : Type} {f : α → β} {l : List α} {i : Nat} {x : α} (h : l[i]? = some x) : (l.map f)[i]? = some (f x) := by
  rw [List.getElem?_map, h] <;> rfl
theorem of_get_map {α β : Type} {f : α → β} {l : List α} {i : Nat} {y : β} (h : (l.map f)[i]? = some y) : ∃ x, l[i]? = some x ∧ y = f x := by
  rw [List.getElem?_map] at h
  cases e : l[i]? with
  | none => rw [e] at h; cases h
  | some x => rw [e] at h; exact ⟨x, rfl, (Option.some.inj h).symm⟩
theorem take_snoc {α : Type} {l : List α} {i : Nat} {x : α} (h : l[i]? = some x) : l.take (i + 1) = l.take i ++ [x] := by
  rw [List.take_add_one, h] <;> rfl
theorem lt_of_get {α : Type} {l : List α} {i : Nat} {x : α} (h : l[i]? = some x) : i < l.length := (List.getElem?_eq_some_iff.mp h).1
/-- 1, 2, .., n -/
def upto (n : Nat) : List Int := (List.range n).map fun (i : Nat) => 1 + (i : Int)
theorem upto_succ (n : Nat) : upto (n + 1) = upto n ++ [1 + (n : Int)] := by
  unfold upto
  rw [List.range_succ, List.map_append] <;> rfl
theorem upto_length (n : Nat) : (upto n).length = n := by
  unfold upto
  rw [List.length_map, List.length_range]
theorem mem_upto {n : Nat} {x : Int} : x ∈ upto n ↔ 1 ≤ x ∧ x ≤ n := by
  unfold upto
  rw [List.mem_map]
  constructor
  · rintro ⟨i, hi, rfl⟩
    have := List.mem_range.mp hi
    omega
  · rintro ⟨h1, h2⟩
    exact ⟨(x - 1).toNat, List.mem_range.mpr (by omega), by omega⟩
theorem cw_mul {i j : Int} {a b : Nat} (ha : i.natAbs < 2 ^ a) (hb : j.natAbs < 2 ^ b) (h0 : 0 < a := by decide) (h1 : 0 < b := by decide) (h : a + b ≤ 1000000 := by decide) : CMulW i j := wide_mul ha hb h0 h1 h
/-- // by a positive divisor, where it is told that C divides by itself -/
theorem op_fdivP {X : Cx} : OpR X (binaryOp .FloorDiv) (rI CDivP fun i j => .int (i / j)) := opI fun i j _ _ _ _ _ hc q => by
  have h1 : (0 : Int) < j := hc.1
  exact floordiv_int (by omega) (by rw [Int.fdiv_eq_ediv_of_nonneg i (by omega)]; exact q) (.inl hc.2)
theorem cdp_of {i j : Int} (h : CDivW i j) : CDivP i j := ⟨h.1, PyProof.noPylong_of_log2 h.2⟩
theorem cw_div {i j : Int} {b : Nat} (h : 0 < j) (hb : j.natAbs < 2 ^ b) (h0 : 0 < b := by decide) (h9 : b ≤ 9000 := by decide) : CDivP i j := cdp_of (wide_div h hb h0 h9)
theorem fil_yes {α : Type} {q : α → Prop} [DecidablePred q] {l : List α} {x : α} (h : q x) : (l ++ [x]).filter (fun k => decide (q k)) = l.filter (fun k => decide (q k)) ++ [x] := by
  rw [List.filter_append]
  congr 1
  simp [h]
theorem fil_no {α : Type} {q : α → Prop} [DecidablePred q] {l : List α} {x : α} (h : ¬ q x) : (l ++ [x]).filter (fun k => decide (q k)) = l.filter (fun k => decide (q k)) := by
  rw [List.filter_append]
  simp [h]
/-- what holds behind a statement, its ways joined -/
theorem cut {t R : TS} {D : Ends} {σ : L2.St} {H : Hp} (Pm : L2.St → Hp → Prop) (h1 : ∀ (R : TS) (D : Ends), (∀ σ' H', Pm σ' H' → R D σ' H') → tSeq t R D σ H) (h2 : ∀ σ' H', Pm σ' H' → R D σ' H') : tSeq t R D σ H := h1 R D h2
/-- name = constant -/
theorem asg_c {v : V} {i : Nat} {R : TS} {D : Ends} {σ : L2.St} {H : Hp} (h : R D (σ.set i (some v)) H) : tSeq (tAsg (tC v) (gName i)) R D σ H := h
theorem snoc_ind {α : Type} (P : List α → Prop) (l : List α) (h0 : P []) (hs : ∀ l x, P l → P (l ++ [x])) : P l := by
  have : ∀ r : List α, P r.reverse := fun r => by
    induction r with
    | nil => exact h0
    | cons x r ih =>
      rw [List.reverse_cons]
      exact hs _ _ ih
  have := this l.reverse
  rwa [List.reverse_reverse] at this

/-! ### sizes, by bits -/
/-- x has at most n bits -/
def Sz (n : Nat) (x : Int) : Prop := x.natAbs < 2 ^ n
theorem Sz.mono {a b : Nat} {x : Int} (h : Sz a x) (l : a ≤ b := by decide) : Sz b x := Nat.lt_of_lt_of_le h (Nat.pow_le_pow_right (by decide) l)
theorem Sz.le {a : Nat} {x y : Int} (h : Sz a y) (h0 : 0 ≤ x) (l : x ≤ y) : Sz a x := Nat.lt_of_le_of_lt (by omega : x.natAbs ≤ y.natAbs) h
theorem Sz.mul {a b : Nat} {x y : Int} (h : Sz a x) (g : Sz b y) : Sz (a + b) (x * y) := by
  unfold Sz
  rw [Int.natAbs_mul, Nat.pow_add]
  exact Nat.mul_lt_mul'' h g
theorem Sz.add {a : Nat} {x y : Int} (h : Sz a x) (g : Sz a y) : Sz (a + 1) (x + y) := by
  have h : x.natAbs < 2 ^ a := h
  have g : y.natAbs < 2 ^ a := g
  show (x + y).natAbs < 2 ^ (a + 1)
  rw [Nat.pow_succ]
  omega
theorem Sz.sub {a : Nat} {x y : Int} (h : Sz a x) (g : Sz a y) : Sz (a + 1) (x - y) := by
  have h : x.natAbs < 2 ^ a := h
  have g : y.natAbs < 2 ^ a := g
  show (x - y).natAbs < 2 ^ (a + 1)
  rw [Nat.pow_succ]
  omega
theorem Sz.cm {a b : Nat} {i j : Int} (ha : Sz a i) (hb : Sz b j) (h0 : 0 < a := by decide) (h1 : 0 < b := by decide) (h : a + b ≤ 1000000 := by decide) : CMulW i j := wide_mul ha hb h0 h1 h
theorem Sz.cd {b : Nat} {i j : Int} (hb : Sz b j) (h : 0 < j) (h0 : 0 < b := by decide) (h9 : b ≤ 9000 := by decide) : CDivP i j := cw_div h hb h0 h9
theorem Sz.lit {a : Nat} {x : Int} (h : x.natAbs < 2 ^ a := by decide) : Sz a x := h
theorem Sz.one {a : Nat} (h : 0 < a := by decide) : Sz a 1 := Nat.one_lt_two_pow (by omega)
theorem Sz.zero {a : Nat} : Sz a 0 := Nat.pow_pos (by decide)
/-- a dividend not much greater than its divisor -/
theorem cdp_near {i j : Int} {k : Nat} (hj : 0 < j) (h : i.natAbs ≤ 2 ^ k * j.natAbs) (hk : k ≤ 3000 := by decide) : CDivP i j := by
  refine divp_ok hj ?_
  have b1 : j.natAbs < 2 ^ (j.natAbs.log2 + 1) := Nat.lt_log2_self
  have b2 : i.natAbs < 2 ^ (k + (j.natAbs.log2 + 1)) := by
    rw [Nat.pow_add]
    exact Nat.lt_of_le_of_lt h (Nat.mul_lt_mul_of_pos_left b1 (Nat.pow_pos (by decide)))
  have b3 := PyProof.Rows.intBits_le b2
  have b4 : Builtin.Int.intBits j = j.natAbs.log2 + 1 := by
    unfold Builtin.Int.intBits
    rw [if_neg (by simpa using (show j ≠ 0 by omega))]
  omega

--: math = sz
/-! ### lowest terms -/
def gc (a b : Int) : Int := ((Int.gcd a b : Nat) : Int)
def low (t b : Int) : Int × Int := (t / gc t b, b / gc t b)
theorem gc_nn (a b : Int) : 0 ≤ gc a b := Int.natCast_nonneg _
theorem gc_pos {t b : Int} (h : 1 ≤ b) : 0 < gc t b := by
  have : Int.gcd t b ≠ 0 := fun z => by
    have := (Int.gcd_eq_zero_iff.mp z).2
    omega
  unfold gc
  omega
theorem gc_dl (t b : Int) : gc t b ∣ t := Int.gcd_dvd_left ..
theorem gc_dr (t b : Int) : gc t b ∣ b := Int.gcd_dvd_right ..
theorem gc_le {t b : Int} (h : 1 ≤ b) : gc t b ≤ b := Int.le_of_dvd (by omega) (gc_dr t b)
theorem low_t (t b : Int) : (low t b).1 * gc t b = t := Int.ediv_mul_cancel (gc_dl t b)
theorem low_b (t b : Int) : (low t b).2 * gc t b = b := Int.ediv_mul_cancel (gc_dr t b)
theorem low_bpos {t b : Int} (h : 1 ≤ b) : 1 ≤ (low t b).2 := by
  have g := gc_pos (t := t) h
  have e := low_b t b
  by_cases z : 1 ≤ (low t b).2
  · exact z
  · have : (low t b).2 * gc t b ≤ 0 := Int.mul_nonpos_of_nonpos_of_nonneg (by omega) (by omega)
    omega
theorem low_tnn {t b : Int} (h : 1 ≤ b) (h0 : 0 ≤ t) : 0 ≤ (low t b).1 := Int.ediv_nonneg h0 (gc_nn t b)
theorem low_ble {t b : Int} (h : 1 ≤ b) : (low t b).2 ≤ b := Int.ediv_le_self _ (by omega)
theorem low_tle {t b : Int} (h0 : 0 ≤ t) : (low t b).1 ≤ t := Int.ediv_le_self _ h0
theorem low_cross (t b : Int) : t * (low t b).2 = (low t b).1 * b := by
  have h1 := low_t t b
  have h2 := low_b t b
  calc t * (low t b).2 = (low t b).1 * gc t b * (low t b).2 := by rw [h1]
    _ = (low t b).1 * ((low t b).2 * gc t b) := by rw [Int.mul_assoc, Int.mul_comm (gc t b)]
    _ = (low t b).1 * b := by rw [h2]
theorem low_scale {t b k : Int} (h : 0 < k) : low (t * k) (b * k) = low t b := by
  unfold low gc
  rw [Int.gcd_mul_right, Int.natCast_mul, Int.natAbs_of_nonneg (by omega), Int.mul_ediv_mul_of_pos_left _ _ h, Int.mul_ediv_mul_of_pos_left _ _ h]
theorem low_uniq {t b t' b' : Int} (h : 0 < b) (h' : 0 < b') (e : t * b' = t' * b) : low t b = low t' b' := by
  rw [← low_scale (t := t) (b := b) h', ← low_scale (t := t') (b := b') h, e, Int.mul_comm b b']
theorem low_low {t b : Int} (h : 1 ≤ b) : low (low t b).1 (low t b).2 = low t b :=
  low_uniq (by have := low_bpos (t := t) h; omega) (by omega) (low_cross t b).symm
theorem low_of_eq {t b t' b' : Int} (h : 1 ≤ b) (e : low t b = low t' b') : t * b' = t' * b := by
  have c1 := low_cross t b
  have c2 := low_cross t' b'
  rw [← e] at c2
  have hb := low_bpos (t := t) h
  refine Int.eq_of_mul_eq_mul_right (a := (low t b).2) (by omega) ?_
  calc t * b' * (low t b).2 = t * (low t b).2 * b' := by rw [Int.mul_assoc, Int.mul_comm b', Int.mul_assoc]
    _ = (low t b).1 * b' * b := by rw [c1, Int.mul_assoc, Int.mul_comm b, ← Int.mul_assoc]
    _ = t' * b * (low t b).2 := by rw [← c2, Int.mul_assoc, Int.mul_comm _ b, ← Int.mul_assoc]
theorem gc_step {x y : Int} : gc y (x % y) = gc x y := by
  unfold gc
  rw [Int.gcd_comm x y]
  have h := Int.gcd_add_mul_left_right y (x % y) (x / y)
  rw [Int.emod_add_mul_ediv] at h
  rw [h]
theorem gc_zero {x : Int} (h : 0 ≤ x) : gc x 0 = x := by
  unfold gc
  rw [Int.gcd_zero_right]
  omega
/-- what _law_lowest's two divisions ask -/
theorem low_divs {t b : Int} (hb : 1 ≤ b) (z : Sz 9000 b) : CDivP t (gc t b) ∧ CDivP b (gc t b) := by
  have g := gc_pos (t := t) hb
  have zg : Sz 9000 (gc t b) := z.le (by omega) (gc_le hb)
  exact ⟨zg.cd g, zg.cd g⟩
theorem low_near {t b : Int} (hb : 1 ≤ b) (h1 : Sz 3000 (low t b).1) (h2 : Sz 3000 (low t b).2) : CDivP t (gc t b) ∧ CDivP b (gc t b) := by
  have g := gc_pos (t := t) hb
  have e1 := congrArg Int.natAbs (low_t t b)
  have e2 := congrArg Int.natAbs (low_b t b)
  rw [Int.natAbs_mul] at e1 e2
  have h1 : (low t b).1.natAbs < 2 ^ 3000 := h1
  have h2 : (low t b).2.natAbs < 2 ^ 3000 := h2
  refine ⟨cdp_near (k := 3000) g ?_, cdp_near (k := 3000) g ?_⟩
  · rw [← e1]
    exact Nat.mul_le_mul_right _ (Nat.le_of_lt h1)
  · rw [← e2]
    exact Nat.mul_le_mul_right _ (Nat.le_of_lt h2)

--: math = low
/-! ### sums of shares -/
def sumS (xs : List Int) : Int × Int := xs.foldl (fun p s => (p.1 * s + p.2, p.2 * s)) (0, 1)
/-- the sum of the shares, in lowest terms -/
def lowS (xs : List Int) : Int × Int := low (sumS xs).1 (sumS xs).2
/-- shares: none below one -/
def Pos (xs : List Int) : Prop := ∀ x ∈ xs, (1 : Int) ≤ x
theorem sumS_snoc (xs : List Int) (s : Int) : sumS (xs ++ [s]) = ((sumS xs).1 * s + (sumS xs).2, (sumS xs).2 * s) := by
  unfold sumS
  rw [List.foldl_append] <;> rfl
theorem sumS_nil : sumS [] = (0, 1) := rfl
theorem low_01 : low 0 1 = (0, 1) := by decide
theorem lowS_nil : lowS [] = (0, 1) := low_01
theorem Pos.snoc {xs : List Int} {s : Int} (h : Pos (xs ++ [s])) : Pos xs ∧ 1 ≤ s :=
  ⟨fun x hx => h x (List.mem_append_left _ hx), h s (List.mem_append_right _ List.mem_cons_self)⟩
theorem sumS_pos (xs : List Int) : Pos xs → 0 ≤ (sumS xs).1 ∧ 1 ≤ (sumS xs).2 ∧ (sumS xs).1 ≤ xs.length * (sumS xs).2 := by
  refine snoc_ind (fun xs => Pos xs → 0 ≤ (sumS xs).1 ∧ 1 ≤ (sumS xs).2 ∧ (sumS xs).1 ≤ xs.length * (sumS xs).2) xs (fun _ => ⟨by decide, by decide, by decide⟩) (fun l x ih h => ?_)
  obtain ⟨h1, h2⟩ := h.snoc
  obtain ⟨a, b, c⟩ := ih h1
  rw [sumS_snoc, List.length_append]
  have p1 : 0 ≤ (sumS l).1 * x := Int.mul_nonneg a (by omega)
  have p2 : 0 < (sumS l).2 * x := Int.mul_pos (by omega) (by omega)
  refine ⟨by show 0 ≤ (sumS l).1 * x + (sumS l).2; omega, p2, ?_⟩
  show (sumS l).1 * x + (sumS l).2 ≤ ((l.length + 1 : Nat) : Int) * ((sumS l).2 * x)
  have q1 : (sumS l).1 * x ≤ l.length * (sumS l).2 * x := Int.mul_le_mul_of_nonneg_right c (by omega)
  have q2 : (sumS l).2 * 1 ≤ (sumS l).2 * x := Int.mul_le_mul_of_nonneg_left h2 (by omega)
  rw [Int.natCast_add, Int.add_mul, ← Int.mul_assoc]
  omega
theorem pos_take {xs : List Int} (h : Pos xs) (i : Nat) : Pos (xs.take i) := fun x hx => h x (List.mem_of_mem_take hx)
theorem sumS_append_le (ys xs : List Int) : Pos (xs ++ ys) → (sumS xs).2 ≤ (sumS (xs ++ ys)).2 := by
  refine snoc_ind (fun ys => Pos (xs ++ ys) → (sumS xs).2 ≤ (sumS (xs ++ ys)).2) ys (fun _ => ?_) (fun l x ih h => ?_)
  · rw [List.append_nil]
    exact Int.le_refl _
  · rw [← List.append_assoc] at h ⊢
    obtain ⟨h1, h2⟩ := h.snoc
    have a := ih h1
    have b := (sumS_pos _ h1).2.1
    rw [sumS_snoc (xs ++ l)]
    show (sumS xs).2 ≤ (sumS (xs ++ l)).2 * x
    have : (sumS (xs ++ l)).2 * 1 ≤ (sumS (xs ++ l)).2 * x := Int.mul_le_mul_of_nonneg_left h2 (by omega)
    omega
theorem sumS_take_le {xs : List Int} (h : Pos xs) (i : Nat) : (sumS (xs.take i)).2 ≤ (sumS xs).2 := by
  have := sumS_append_le (xs.drop i) (xs.take i)
  rw [List.take_append_drop] at this
  exact this h
/-- sizes within a sum -/
structure SumOk (xs : List Int) : Prop where
  pos : Pos xs
  sz : Sz 4000 (sumS xs).2
  len : xs.length ≤ 1000
theorem SumOk.take {xs : List Int} (h : SumOk xs) (i : Nat) : SumOk (xs.take i) where
  pos := pos_take h.pos i
  sz := h.sz.le (by have := (sumS_pos _ (pos_take h.pos i)).2.1; omega) (sumS_take_le h.pos i)
  len := by
    have := h.len
    rw [List.length_take]
    omega
theorem SumOk.top {xs : List Int} (h : SumOk xs) : Sz 4010 (sumS xs).1 := by
  obtain ⟨a, b, c⟩ := sumS_pos _ h.pos
  have hl : Sz 10 (xs.length : Int) := by
    have := h.len
    show (xs.length : Int).natAbs < 1024
    omega
  exact (hl.mul h.sz).mono.le a c
theorem SumOk.item {xs : List Int} (h : SumOk xs) {i : Nat} {s : Int} (e : xs[i]? = some s) : 1 ≤ s ∧ Sz 4000 s := by
  have hs : 1 ≤ s := h.pos s (List.mem_of_getElem? e)
  have k := (h.take (i + 1)).sz
  rw [List.take_add_one, e] at k
  have k : Sz 4000 (sumS (xs.take i ++ [s])).2 := k
  rw [sumS_snoc] at k
  have b := (sumS_pos _ (pos_take h.pos i)).2.1
  refine ⟨hs, Sz.le k (by omega) ?_⟩
  show s ≤ (sumS (xs.take i)).2 * s
  have : 1 * s ≤ (sumS (xs.take i)).2 * s := Int.mul_le_mul_of_nonneg_right b (by omega)
  omega
theorem low_step {t b s : Int} (hb : 1 ≤ b) (hs : 1 ≤ s) : low ((low t b).1 * s + 1 * (low t b).2) ((low t b).2 * s) = low (t * s + b) (b * s) := by
  have h := low_bpos (t := t) hb
  have p1 : 0 < (low t b).2 * s := Int.mul_pos (by omega) (by omega)
  have p2 : 0 < b * s := Int.mul_pos (by omega) (by omega)
  refine low_uniq p1 p2 ?_
  have c := low_cross t b
  generalize (low t b).1 = x at *
  generalize (low t b).2 = y at *
  have c2 : t * y * (s * s) = x * b * (s * s) := by rw [c]
  simp only [Int.add_mul, Int.mul_add, Int.one_mul] at *
  simp only [Int.mul_comm, Int.mul_left_comm, Int.mul_assoc] at *
  omega
theorem lowS_snoc {xs : List Int} {s : Int} (h : Pos xs) (hs : 1 ≤ s) : low ((lowS xs).1 * s + 1 * (lowS xs).2) ((lowS xs).2 * s) = lowS (xs ++ [s]) := by
  unfold lowS
  rw [low_step (sumS_pos _ h).2.1 hs, sumS_snoc]
theorem prod_sz {m : Nat} (xs : List Int) : (∀ x ∈ xs, (1 : Int) ≤ x ∧ Sz m x) → Sz (m * xs.length + 1) (sumS xs).2 := by
  refine snoc_ind (fun xs => (∀ x ∈ xs, (1 : Int) ≤ x ∧ Sz m x) → Sz (m * xs.length + 1) (sumS xs).2) xs (fun _ => Sz.one (by show 0 < m * 0 + 1; omega)) (fun l x ih h => ?_)
  have h1 := ih fun y hy => h y (List.mem_append_left _ hy)
  have h2 := (h x (List.mem_append_right _ List.mem_cons_self)).2
  rw [sumS_snoc, List.length_append]
  exact (h1.mul h2).mono (by show m * l.length + 1 + m ≤ m * (l.length + 1) + 1; rw [Nat.mul_add]; omega)
theorem cm_prod {x y : Int} {n : Nat} (hx : 0 ≤ x) (hy : 1 ≤ y) (h : Sz n (x * y)) (h2 : Sz n y) (h0 : 0 < n := by decide) (hn : n ≤ 1000000 := by decide) : CMulW x y := by
  unfold CMulW
  by_cases z : x = 0
  · subst z
    have := PySem.Flt.log2_lt_of h0 h2
    have e : (0 : Int).natAbs.log2 = 0 := by decide
    omega
  · have a := Nat.log2_self_le (n := x.natAbs) (by omega)
    have b := Nat.log2_self_le (n := y.natAbs) (by omega)
    have c : 2 ^ (x.natAbs.log2 + y.natAbs.log2) < 2 ^ n := by
      rw [Nat.pow_add]
      refine Nat.lt_of_le_of_lt (Nat.mul_le_mul a b) ?_
      rw [← Int.natAbs_mul]
      exact h
    have := (Nat.pow_lt_pow_iff_right (by decide : 1 < 2)).mp c
    omega
/-- sizes within a sum, great ones -/
structure SumC (xs : List Int) : Prop where
  pos : Pos xs
  sz : Sz 600000 (sumS xs).2
  len : xs.length ≤ 1000
  d1 : CDivP (sumS xs).1 (gc (sumS xs).1 (sumS xs).2)
  d2 : CDivP (sumS xs).2 (gc (sumS xs).1 (sumS xs).2)
theorem SumOk.c {xs : List Int} (h : SumOk xs) : SumC xs := by
  obtain ⟨a, b, c⟩ := sumS_pos _ h.pos
  have g := gc_pos (t := (sumS xs).1) b
  have z : Sz 9000 (gc (sumS xs).1 (sumS xs).2) := (h.sz.mono : Sz 9000 _).le (by omega) (gc_le b)
  exact ⟨h.pos, h.sz.mono, h.len, z.cd g, z.cd g⟩
theorem SumC.at {xs : List Int} (h : SumC xs) (i : Nat) : Sz 600000 (sumS (xs.take i)).2 ∧ Sz 600010 (sumS (xs.take i)).1 := by
  obtain ⟨a, b, c⟩ := sumS_pos _ (pos_take h.pos i)
  have s2 : Sz 600000 (sumS (xs.take i)).2 := h.sz.le (by omega) (sumS_take_le h.pos i)
  have hl : Sz 10 ((xs.take i).length : Int) := by
    have := h.len
    have : (xs.take i).length ≤ xs.length := by rw [List.length_take]; omega
    show ((xs.take i).length : Int).natAbs < 1024
    omega
  exact ⟨s2, (hl.mul s2).mono.le a c⟩
theorem SumC.step {xs : List Int} (h : SumC xs) {i : Nat} {s : Int} (e : xs[i]? = some s) : CMulW (sumS (xs.take i)).1 s ∧ CMulW (sumS (xs.take i)).2 s := by
  have hs : 1 ≤ s := h.pos s (List.mem_of_getElem? e)
  obtain ⟨a, b, c⟩ := sumS_pos _ (pos_take h.pos i)
  have k := h.at (i + 1)
  rw [take_snoc e, sumS_snoc] at k
  obtain ⟨k1, k2⟩ := k
  have k1 : Sz 600000 ((sumS (xs.take i)).2 * s) := k1
  have k2 : Sz 600010 ((sumS (xs.take i)).1 * s + (sumS (xs.take i)).2) := k2
  have p1 : 0 ≤ (sumS (xs.take i)).1 * s := Int.mul_nonneg a (by omega)
  have s1 : s ≤ (sumS (xs.take i)).2 * s := by
    have : 1 * s ≤ (sumS (xs.take i)).2 * s := Int.mul_le_mul_of_nonneg_right b (by omega)
    omega
  have zs : Sz 600000 s := k1.le (by omega) s1
  exact ⟨cm_prod (n := 600010) a hs (k2.le p1 (by omega)) zs.mono, cm_prod (n := 600000) (by omega) hs k1 zs⟩

--: math = sums
/-! ### rising factors -/
/-- the least number that is no less than t / b -/
def upF (t b : Int) : Int := (t + b - 1) / b
theorem upF_hi {B T : Int} (h : 1 ≤ T) : B ≤ upF B T * T := by
  have e := Int.emod_add_mul_ediv (B + T - 1) T
  have l := Int.emod_lt_of_pos (B + T - 1) (b := T) (by omega)
  rw [Int.mul_comm] at e
  unfold upF
  omega
theorem upF_lo {B T : Int} (h : 1 ≤ T) : (upF B T - 1) * T < B := by
  have e := Int.emod_add_mul_ediv (B + T - 1) T
  have l := Int.emod_nonneg (B + T - 1) (b := T) (by omega)
  rw [Int.mul_comm] at e
  unfold upF
  rw [Int.sub_mul]
  omega
theorem upF_uniq {B T n : Int} (h : 1 ≤ T) (h1 : (n - 1) * T < B) (h2 : B ≤ n * T) : upF B T = n := by
  have a := upF_hi (B := B) h
  have b := upF_lo (B := B) h
  have c1 : upF B T - 1 < n := Int.lt_of_mul_lt_mul_right (Int.lt_of_lt_of_le b h2) (by omega)
  have c2 : n - 1 < upF B T := Int.lt_of_mul_lt_mul_right (Int.lt_of_lt_of_le h1 a) (by omega)
  omega
theorem upF_two {B T : Int} (h : 1 ≤ T) (hb : T < B) : 2 ≤ upF B T := by
  have a := upF_hi (B := B) h
  by_cases c : 2 ≤ upF B T
  · exact c
  · have : upF B T * T ≤ 1 * T := Int.mul_le_mul_of_nonneg_right (by omega) (by omega)
    omega
theorem upF_le {B T : Int} (h : 1 ≤ T) (hb : 1 ≤ B) : upF B T ≤ B := by
  have b := upF_lo (B := B) h
  by_cases c : upF B T ≤ B
  · exact c
  · have : B * T ≤ (upF B T - 1) * T := Int.mul_le_mul_of_nonneg_right (by omega) (by omega)
    have : B * 1 ≤ B * T := Int.mul_le_mul_of_nonneg_left h (by omega)
    omega
theorem upF_pos {B T : Int} (h : 1 ≤ T) (hb : 1 ≤ B) : 1 ≤ upF B T := by
  have a := upF_hi (B := B) h
  by_cases c : 1 ≤ upF B T
  · exact c
  · have : upF B T * T ≤ 0 * T := Int.mul_le_mul_of_nonneg_right (by omega) (by omega)
    omega
/-- what is left of the top -/
def nxt (T B : Int) : Int := T * upF B T - B
theorem nxt_nn {T B : Int} (h : 1 ≤ T) : 0 ≤ nxt T B := by
  have a := upF_hi (B := B) h
  unfold nxt
  rw [Int.mul_comm]
  omega
theorem nxt_lt {T B : Int} (h : 1 ≤ T) : nxt T B < T := by
  have b := upF_lo (B := B) h
  rw [Int.sub_mul] at b
  unfold nxt
  rw [Int.mul_comm]
  omega
def rf : Nat → Int → Int → List Int
  | 0, _, _ => []
  | k + 1, T, B => if T ≤ 0 then [] else upF B T :: rf k (nxt T B) B
/-- the numbers of the rising factors of T / B -/
def rfs (T B : Int) : List Int := rf T.toNat T B
theorem rf_fuel : ∀ (k : Nat) (T B : Int), T.toNat ≤ k → rf k T B = rf T.toNat T B
  | 0, T, B, h => by
    have e : T.toNat = 0 := by omega
    rw [e]
  | k + 1, T, B, h => by
    by_cases c : T ≤ 0
    · have e : T.toNat = 0 := by omega
      rw [e]
      show (if T ≤ 0 then [] else _) = _
      rw [if_pos c] <;> rfl
    · obtain ⟨m, em⟩ : ∃ m, T.toNat = m + 1 := ⟨T.toNat - 1, by omega⟩
      have l := nxt_lt (T := T) (B := B) (by omega)
      rw [em]
      show (if T ≤ 0 then [] else upF B T :: rf k (nxt T B) B) = (if T ≤ 0 then [] else upF B T :: rf m (nxt T B) B)
      rw [rf_fuel k (nxt T B) B (by omega), rf_fuel m (nxt T B) B (by omega)]
theorem rfs_nil {T B : Int} (h : T ≤ 0) : rfs T B = [] := by
  have e : T.toNat = 0 := by omega
  unfold rfs
  rw [e] <;> rfl
theorem rfs_cons {T B : Int} (h : 1 ≤ T) : rfs T B = upF B T :: rfs (nxt T B) B := by
  obtain ⟨m, em⟩ : ∃ m, T.toNat = m + 1 := ⟨T.toNat - 1, by omega⟩
  have l := nxt_lt (T := T) (B := B) h
  unfold rfs
  rw [em]
  show (if T ≤ 0 then [] else upF B T :: rf m (nxt T B) B) = _
  rw [if_neg (by omega), rf_fuel m (nxt T B) B (by omega)]
/-- by what is left -/
theorem rfs_ind (P : Int → Prop) {B : Int} (h0 : ∀ T, T ≤ 0 → P T) (hs : ∀ T, 1 ≤ T → P (nxt T B) → P T) : ∀ T, P T := fun T => by
  have : ∀ (k : Nat) (T : Int), T.toNat ≤ k → P T := fun k => by
    induction k with
    | zero => exact fun T h => h0 T (by omega)
    | succ k ih =>
      intro T h
      by_cases c : T ≤ 0
      · exact h0 T c
      · have l := nxt_lt (T := T) (B := B) (by omega)
        exact hs T (by omega) (ih _ (by omega))
  exact this _ T (Nat.le_refl _)
theorem upF_rel {T B t b : Int} (hT : 1 ≤ T) (ht : 1 ≤ t) (hB : 1 ≤ B) (hb : 1 ≤ b) (e : T * b = t * B) : upF B T = upF b t := by
  have a1 := upF_hi (B := b) ht
  have a2 := upF_lo (B := b) ht
  generalize upF b t = n at *
  refine upF_uniq hT ?_ ?_
  · refine Int.lt_of_mul_lt_mul_right (a := b) ?_ (by omega)
    have : (n - 1) * T * b = (n - 1) * t * B := by rw [Int.mul_assoc, e, ← Int.mul_assoc]
    rw [this, Int.mul_comm B b]
    exact Int.mul_lt_mul_of_pos_right a2 (by omega)
  · refine Int.le_of_mul_le_mul_right (a := b) ?_ (by omega)
    have : n * T * b = n * t * B := by rw [Int.mul_assoc, e, ← Int.mul_assoc]
    rw [this, Int.mul_comm B b]
    exact Int.mul_le_mul_of_nonneg_right a1 (by omega)
theorem rfs_rel {B b : Int} (hB : 1 ≤ B) (hb : 1 ≤ b) : ∀ (T t : Int), 0 ≤ T → 0 ≤ t → T * b = t * B → rfs T B = rfs t b := by
  refine rfs_ind (B := B) (fun T => ∀ t, 0 ≤ T → 0 ≤ t → T * b = t * B → rfs T B = rfs t b) (fun T h t h0 h1 e => ?_) (fun T h ih t h0 h1 e => ?_)
  · have z : T = 0 := by omega
    subst z
    rw [Int.zero_mul] at e
    have zt : t = 0 := (Int.mul_eq_zero.mp e.symm).resolve_right (by omega)
    subst zt
    rw [rfs_nil (Int.le_refl 0), rfs_nil (Int.le_refl 0)]
  · have ht : 1 ≤ t := by
      by_cases z : t = 0
      · rw [z, Int.zero_mul] at e
        have := Int.mul_pos (a := T) (b := b) (by omega) (by omega)
        omega
      · omega
    have eu := upF_rel h ht hB hb e
    rw [rfs_cons h, rfs_cons ht, eu]
    congr 1
    refine ih _ (nxt_nn h) (nxt_nn ht) ?_
    unfold nxt
    rw [eu, Int.sub_mul, Int.sub_mul, Int.mul_right_comm, e, Int.mul_right_comm, Int.mul_comm b B]
/-- each is two or more, none falls, none above B -/
theorem rfs_low {B : Int} (hB : 1 ≤ B) : ∀ T, T < B → (∀ n ∈ rfs T B, 2 ≤ n ∧ n ≤ B) ∧ (rfs T B).Pairwise (· ≤ ·) ∧ (1 ≤ T → ∀ n ∈ rfs T B, upF B T ≤ n) := by
  refine rfs_ind (B := B) (fun T => T < B → (∀ n ∈ rfs T B, 2 ≤ n ∧ n ≤ B) ∧ (rfs T B).Pairwise (· ≤ ·) ∧ (1 ≤ T → ∀ n ∈ rfs T B, upF B T ≤ n)) (fun T h _ => ?_) (fun T h ih hT => ?_)
  · rw [rfs_nil h]
    exact ⟨fun _ m => (nomatch m), List.Pairwise.nil, fun _ _ m => (nomatch m)⟩
  · have l := nxt_lt (B := B) h
    obtain ⟨i1, i2, i3⟩ := ih (by omega)
    have up : ∀ n ∈ rfs (nxt T B) B, upF B T ≤ n := fun n hn => by
      by_cases c : 1 ≤ nxt T B
      · have a := i3 c n hn
        have b1 := upF_hi (B := B) c
        have b2 := upF_lo (B := B) h
        have : (upF B T - 1) * nxt T B ≤ (upF B T - 1) * T := Int.mul_le_mul_of_nonneg_left (by omega) (by have := upF_two h hT; omega)
        have : (upF B T - 1) * nxt T B < upF B (nxt T B) * nxt T B := by omega
        have := Int.lt_of_mul_lt_mul_right this (by omega)
        omega
      · rw [rfs_nil (by omega)] at hn
        cases hn
    rw [rfs_cons h]
    refine ⟨fun n hn => ?_, List.pairwise_cons.mpr ⟨up, i2⟩, fun _ n hn => ?_⟩
    · rcases List.mem_cons.mp hn with rfl | m
      · exact ⟨upF_two h hT, upF_le h hB⟩
      · exact i1 n m
    · rcases List.mem_cons.mp hn with rfl | m
      · exact Int.le_refl _
      · exact up n m
theorem rfs_len {B : Int} : ∀ T, 0 ≤ T → ((rfs T B).length : Int) ≤ T := by
  refine rfs_ind (B := B) (fun T => 0 ≤ T → ((rfs T B).length : Int) ≤ T) (fun T h h0 => ?_) (fun T h ih _ => ?_)
  · rw [rfs_nil h]
    exact h0
  · have l := nxt_lt (B := B) h
    have := ih (nxt_nn h)
    rw [rfs_cons h, List.length_cons]
    omega

/-! ### set(xs) of a list of ints -/
section
variable {P : Program} {w : World} {A : Around} {E : Value → Shared → Prop}
/-- a set that was just made -/
abbrev bare (w : World) : Obj := { cls := .type "set", dict := none, data := .set #[] 0 (.fresh 0 0 (!w.params.followText "set-order")) }
/-- what set.__init__ leaves of s, the set at a: it holds the ints, all of g is kept -/
def Filled (w : World) (s : Shared) (g : Heap) (a : Addr) (ns : List Int) (v : Value) (s' : Shared) : Prop :=
  v = .none ∧ ∃ h tk c, s' = { s with heap := h, toks := tk } ∧ SetR w h a (fun j => decide (j ∈ ns)) c ∧ c ≤ ns.length ∧ ∀ b o, g.get? b = some o → h.get? b = some o
/-- the filling, over the list's own iterator -/
theorem fill_list {g : Heap} {s : Shared} {l : Addr} {its : Array Value} {ns : List Int} (hs : s.heap = (g.push (bare w)).push { cls := .type "list_iterator", data := .fields #[.ref l, .int 0 0] }) (hh : A.handled = none)
    (hl : g.IsList l its) (hi : IntsAre its.toList ns) (hn : its.size = ns.length) (hb : ns.length + 1 < scanBound) {R : Result → Shared → Prop} (hr : ∀ s', Filled w s g g.objs.size ns .none s' → R (.ok (.ret .none)) s') :
    codeAny (model P w) A (.builtin "set.update.loop" ⟨[.ref g.objs.size, .ref (g.objs.size + 1)], []⟩) R s := by
  have lt : l < g.objs.size := by
    obtain ⟨o, e, _⟩ := hl
    exact Heap.lt_size e
  have z1 : (g.push (bare w)).objs.size = g.objs.size + 1 := Heap.size_push ..
  have a0 : (g.push (bare w)).get? g.objs.size = some (bare w) := Heap.get?_push_size _ rfl
  have apart : g.objs.size ∉ [g.objs.size + 1, l] := by
    intro m
    rcases List.mem_cons.mp m with e | m
    · exact Nat.ne_of_lt (Nat.lt_succ_self _) e
    · exact Nat.ne_of_gt lt (List.mem_singleton.mp m)
  have val : ∀ (i : Nat) (v : Value), its[i]? = some v → ∃ k t, ns[i]? = some k ∧ v = .int k t := fun i v e => by
    have hi' : i < ns.length := hn ▸ (Array.getElem?_eq_some_iff.mp e).1
    obtain ⟨t, q⟩ := IntsAre.int_at hi i v (by rw [Array.getElem?_toList]; exact e)
    have d : ns.getD i 0 = ns[i] := by rw [List.getD_eq_getElem?_getD, List.getElem?_eq_getElem hi'] <;> rfl
    exact ⟨ns[i], t, List.getElem?_eq_getElem hi', by rw [q, d]⟩
  have hh1 : A.in1.handled = none := hh
  have hl1 : (g.push (bare w)).IsList l its := hl.push _
  obtain ⟨hp, gg, d, tk, os⟩ := s
  have hs : hp = (g.push (bare w)).push { cls := .type "list_iterator", data := .fields #[.ref l, .int 0 0] } := hs
  subst hs
  have W := (Walks.list (prog := P) (w := w) hh1 (g.objs.size + 1) l (Nat.ne_of_lt (Nat.lt_succ_of_lt lt)) its).toS
  refine set_update_ints W g.objs.size apart ns hn hb val (its.size - 0) 0 _ (by omega) (Nat.zero_le _) ?_ ⟨0, Nat.le_refl 0, setR_new_at (Heap.get?_push_of_some _ a0)⟩ fun s' c m hc hR => ?_
  · exact ⟨⟨_, by rw [← z1]; exact Heap.get?_push_size _ rfl, rfl, rfl⟩, hl1.push _⟩
  · obtain ⟨h', g2, d2, tk2, os2⟩ := s'
    cases (m.gens : g2 = gg)
    cases (m.drawn : d2 = d)
    cases (m.os : os2 = os)
    refine hr _ ⟨rfl, h', tk2, c, rfl, hR, hn ▸ hc, fun b o e => ?_⟩
    have hb' := Heap.lt_size e
    refine m.heap b o (fun z => ?_) (Heap.get?_push_of_some _ (Heap.get?_push_of_some _ e))
    rcases List.mem_cons.mp z with z | z
    · exact Nat.ne_of_lt hb' z
    · exact Nat.ne_of_lt (Nat.lt_succ_of_lt hb') (List.mem_singleton.mp z)
set_option maxHeartbeats 3200000 in
theorem init_list {g : Heap} {s : Shared} {l : Addr} {its : Array Value} {ns : List Int} (hs : s.heap = g.push (bare w)) (hh : A.handled = none) (hl : g.IsList l its) (hi : IntsAre its.toList ns) (hn : its.size = ns.length) (hb : ns.length + 1 < scanBound) :
    codeAny (model P w) A (.call (.builtin "set.__init__") ⟨[.ref g.objs.size, .ref l], []⟩) (wants (Filled w s g g.objs.size ns) E) s := by
  have here : s.heap.get? g.objs.size = some (bare w) := by
    rw [hs]
    exact Heap.get?_push_size _ rfl
  have ty : s.TypeIs (.ref g.objs.size) "set" := ⟨_, here, rfl⟩
  have hl1 : s.heap.IsList l its := by
    rw [hs]
    exact hl.push _
  refine codeAny_call_builtin F.called_set.init.plain F.entry_set_init (check_set_init_1 ty ?_)
  obtain ⟨ol, gl, cl, nl, dl⟩ := id hl1
  obtain ⟨ocls, odict, odata, oslots⟩ := ol
  simp only at cl dl
  subst cl dl
  have n1 := F.sub_list_set
  have n2 := F.sub_list_frozenset
  have n3 : (Value.type "list" == Value.type "dict") = false := by decide
  obtain ⟨hp, gg, d, tk, os⟩ := s
  dsimp only at hs here gl hl1 ty
  subst hs
  unfold Builtin.«set.__init__» noKeywords Builtin.Frozenset.updateFrom
  generalize eI : pyIter = it
  wp_walk
  subst eI
  refine wpAny_pyIter_list hl1 ?_
  refine wpAny_bind (wpAny_runValue ?_)
  have z1 : (g.push (bare w)).objs.size = g.objs.size + 1 := Heap.size_push ..
  rw [z1]
  refine fill_list (g := g) rfl (by simpa using hh) hl hi hn hb fun s' f => ?_
  obtain ⟨_, h', tk', c, rfl, r⟩ := f
  show wpAny _ _ _ _ _ _
  refine wpAny_pure ?_
  show wpAny _ _ (ret Value.none) _ _ _
  exact wpAny_pure ⟨rfl, h', tk', c, rfl, r⟩
set_option maxHeartbeats 3200000 in
theorem set_of_list {s : Shared} {l : Addr} {its : Array Value} {ns : List Int} (hh : A.handled = none) (hl : s.heap.IsList l its) (hi : IntsAre its.toList ns) (hb : ns.length + 1 < scanBound) {Q : Value → Shared → Prop}
    (hq : ∀ (h : Heap) (tk c : Nat), SetR w h s.heap.objs.size (fun j => decide (j ∈ ns)) c → c ≤ ns.length → (∀ b o, s.heap.get? b = some o → h.get? b = some o) → Q (.ref s.heap.objs.size) { s with heap := h, toks := tk }) :
    wpAny (model P w) A (call (.type "set") [.ref l]) Q E s := by
  have hn : its.size = ns.length := by
    have q := IntsAre.length hi
    rwa [Array.length_toList] at q
  obtain ⟨c, tl, hmro⟩ := F.called_set.mro
  have f1 := F.called_set.made
  have f2 := F.called_set.sub
  have f3 := F.called_set.notType
  have f4 := F.called_set.canCreate
  have f5 := F.typeCall_set_1 (.ref l)
  refine wpAny_call (codeAny_of_tree ?_)
  show wpAny _ _ (callAny (.type "set") _) _ _ _
  refine wpAny_pure ⟨Code.quiet_builtin _ (by decide +kernel), codeAny_builtin F.entry_type_call ?_⟩
  rw [Around.under_plain (weight_type_call_type "set" [.ref l] []) rfl]
  repeat (any_goals (first | assumption | wp_step))
  refine codeAny_mono (code_set_led1 (w := w) (.ref l) (E := E) (Q₁ := fun u s₁ => u = .ref s.heap.objs.size ∧ s₁ = { s with heap := s.heap.push (bare w) }) ⟨rfl, rfl⟩) fun r s₁ hr => ?_
  cases r with
  | error e => exact hr
  | ok fl =>
    cases fl with
    | ret u =>
      obtain ⟨rfl, rfl⟩ := hr
      have here : (s.heap.push (bare w)).get? s.heap.objs.size = some (bare w) := Heap.get?_push_size _ rfl
      have ty : Shared.TypeIs { s with heap := s.heap.push (bare w) } (.ref s.heap.objs.size) "set" := ⟨_, here, rfl⟩
      have g1 := F.called_set.init.lookup
      have g2 := F.called_set.init.bind (.ref s.heap.objs.size)
      repeat (any_goals (first | assumption | wp_step))
      refine codeAny_mono (init_list (s := { s with heap := s.heap.push (bare w) }) rfl hh hl hi hn hb (E := E)) fun r₂ s₂ h₂ => ?_
      cases r₂ with
      | error e => exact h₂
      | ok f2 =>
        cases f2 with
        | ret v =>
          obtain ⟨rfl, h', tk', c', rfl, hR, hc, hk⟩ := h₂
          repeat (any_goals (first | assumption | wp_step))
          exact hq _ _ _ hR hc hk
        | next => exact h₂.elim
        | brk => exact h₂.elim
        | cont => exact h₂.elim
    | next => exact hr.elim
    | brk => exact hr.elim
    | cont => exact hr.elim
end
/-- set(xs) -/
def rSetL (K : PySem.W.Frag) (w : World) : List V → Hp → VK → Prop := fun vs H Q => ∃ (l : Addr) (ns : List Int), vs = [V.ref l] ∧ SqL K H l (ns.map V.int) ∧ ns.length < 4000 ∧
  ∀ (p : Addr) (c : Nat), H p = none → c ≤ ns.length → Q (.ref p) (upd H p (SetO w p (fun j => decide (j ∈ ns)) c))
theorem cr_setL {X : Cx} (hc : X.calm = true) : CallR X (.type "set") (rSetL X.K X.w) := by
  intro pins s σ H vs us Q I r h
  obtain ⟨l, ns, rfl, hS, hn, q⟩ := h
  obtain ⟨u, rfl, ru⟩ := vals1 r
  cases ru
  obtain ⟨its, rv, pl, hz⟩ := I.list hS
  refine set_of_list (I.ok.hd hc) pl.isList (ns := ns) (by simpa using RZ.intsAre_vals rv) (by unfold scanBound; omega) fun h tk c hR hc' hk => ?_
  exact ⟨.ref _, _, I.laid (t' := tk) (a := s.heap.objs.size) hk (Nat.le_refl _) (setO_new hR), rfl, q _ c (I.hok.fresh (Nat.le_refl _)) hc'⟩

/-! ### pairs of ints, compared -/
theorem dp_pair {K : PySem.W.Frag} {H : Hp} {a : Addr} {t u : Int} (h : SqT K H a [.int t, .int u]) : Dp K H (.ref a) (.tuple [.int t, .int u]) := .tup h (.cons (.int t) (.cons (.int u) .nil))
theorem eqv_pair (t u t' u' : Int) : PyData.eqv (.tuple [.int t, .int u]) (.tuple [.int t', .int u']) = decide (t = t' ∧ u = u') := by
  simp [PyData.eqv, PyData.eqvAll, Bool.decide_and]
  rfl

--: math = setlist
--: math = pairs
/-! ### lists that rise -/
def Ris (xs : List Int) : Prop := xs.Pairwise (· < ·)
instance (xs : List Int) : Decidable (Ris xs) := inferInstanceAs (Decidable (xs.Pairwise _))
theorem ris_uniq : ∀ {a b : List Int}, Ris a → Ris b → (∀ k, k ∈ a ↔ k ∈ b) → a = b
  | [], [], _, _, _ => rfl
  | [], y :: b, _, _, h => absurd ((h y).mpr List.mem_cons_self) (by simp)
  | x :: a, [], _, _, h => absurd ((h x).mp List.mem_cons_self) (by simp)
  | x :: a, y :: b, ha, hb, h => by
    obtain ⟨a1, a2⟩ := List.pairwise_cons.mp ha
    obtain ⟨b1, b2⟩ := List.pairwise_cons.mp hb
    have e : x = y := by
      rcases List.mem_cons.mp ((h x).mp List.mem_cons_self) with e | m
      · exact e
      · rcases List.mem_cons.mp ((h y).mpr List.mem_cons_self) with e | m'
        · exact e.symm
        · have := b1 x m
          have := a1 y m'
          omega
    subst e
    refine congrArg (x :: ·) (ris_uniq a2 b2 fun k => ⟨fun m => ?_, fun m => ?_⟩)
    · rcases List.mem_cons.mp ((h k).mp (List.mem_cons_of_mem _ m)) with e | m'
      · have := a1 k m
        omega
      · exact m'
    · rcases List.mem_cons.mp ((h k).mpr (List.mem_cons_of_mem _ m)) with e | m'
      · have := b1 k m
        omega
      · exact m'
theorem ris_adj {xs : List Int} (h : ∀ (j : Nat) (x y : Int), xs[j]? = some x → xs[j + 1]? = some y → x < y) : Ris xs := by
  refine List.pairwise_iff_getElem.mpr fun i j hi hj hij => ?_
  obtain ⟨d, rfl⟩ : ∃ d, j = i + 1 + d := ⟨j - (i + 1), by omega⟩
  induction d with
  | zero => exact h i _ _ (List.getElem?_eq_getElem hi) (List.getElem?_eq_getElem hj)
  | succ d ih =>
    have h1 := ih (by omega) (by omega)
    have h2 := h (i + 1 + d) _ _ (List.getElem?_eq_getElem (by omega)) (List.getElem?_eq_getElem hj)
    omega
theorem ris_at {xs : List Int} (h : Ris xs) {j : Nat} {x y : Int} (e1 : xs[j]? = some x) (e2 : xs[j + 1]? = some y) : x < y := by
  obtain ⟨h1, rfl⟩ := List.getElem?_eq_some_iff.mp e1
  obtain ⟨h2, rfl⟩ := List.getElem?_eq_some_iff.mp e2
  exact List.pairwise_iff_getElem.mp h j (j + 1) h1 h2 (by omega)
/-! ### data of ints, compared -/
theorem dp_ints {K : PySem.W.Frag} {H : Hp} {a : Addr} {xs : List Int} (h : SqL K H a (xs.map V.int)) : Dp K H (.ref a) (.list (xs.map PyData.int)) := by
  refine .lst h ?_
  clear h
  induction xs with
  | nil => exact .nil
  | cons x xs ih => exact .cons (.int x) ih
theorem eqvAll_ints : ∀ xs ys : List Int, PyData.eqvAll (xs.map PyData.int) (ys.map PyData.int) = decide (xs = ys)
  | [], [] => by simp [PyData.eqvAll]
  | [], y :: ys => by simp [PyData.eqvAll]
  | x :: xs, [] => by simp [PyData.eqvAll]
  | x :: xs, y :: ys => by
    have ih := eqvAll_ints xs ys
    simp only [List.map_cons, PyData.eqvAll, PyData.eqv, ih]
    rw [Bool.eq_iff_iff]
    simp
theorem eqv_ints (xs ys : List Int) : PyData.eqv (.list (xs.map PyData.int)) (.list (ys.map PyData.int)) = decide (xs = ys) := by
  rw [← eqvAll_ints]
  simp only [PyData.eqv]
theorem canLay_ints : ∀ xs : List Int, PyData.canLayAll0 (xs.map PyData.int) = true
  | [] => rfl
  | x :: xs => by
    simp only [List.map_cons, PyData.canLayAll0, PyData.canLay0, canLay_ints xs]
    rfl
theorem depth_ints : ∀ xs : List Int, PyData.depthAll (xs.map PyData.int) = 0
  | [] => rfl
  | x :: xs => by
    simp only [List.map_cons, PyData.depthAll, PyData.depth, depth_ints xs]
    rfl
theorem shaped_ints (xs : List Int) : SeqAt.shaped (.list (xs.map PyData.int)) = true := by
  unfold SeqAt.shaped
  simp only [PyData.canLay0, PyData.depth, canLay_ints, depth_ints]
  rfl

--: math = rf
--: math = ris
/-! ### all ways of a fraction -/
/-- lo, lo + 1, .., hi -/
def span (lo hi : Int) : List Int := (List.range (hi + 1 - lo).toNat).map fun (i : Nat) => lo + (i : Int)
theorem mem_span {lo hi x : Int} : x ∈ span lo hi ↔ lo ≤ x ∧ x ≤ hi := by
  unfold span
  rw [List.mem_map]
  constructor
  · rintro ⟨i, hi, rfl⟩
    have := List.mem_range.mp hi
    omega
  · rintro ⟨h1, h2⟩
    exact ⟨(x - lo).toNat, List.mem_range.mpr (by omega), by omega⟩
theorem ris_span (lo hi : Int) : Ris (span lo hi) := by
  unfold span
  refine List.pairwise_map.mpr (List.pairwise_lt_range.imp fun {a b} h => ?_)
  omega
theorem span_len (lo hi : Int) : (span lo hi).length = (hi + 1 - lo).toNat := by
  unfold span
  rw [List.length_map, List.length_range]
theorem span_get {lo hi : Int} {i : Nat} (h : i < (hi + 1 - lo).toNat) : (span lo hi)[i]? = some (lo + (i : Int)) := by
  unfold span
  rw [List.getElem?_map, List.getElem?_range h] <;> rfl
theorem flatMap_snoc {α β : Type} (f : α → List β) (l : List α) (x : α) : (l ++ [x]).flatMap f = l.flatMap f ++ f x := by
  rw [List.flatMap_append] <;> simp
theorem fm_congr {α β : Type} {f g : α → List β} : ∀ {l : List α}, (∀ x ∈ l, f x = g x) → l.flatMap f = l.flatMap g
  | [], _ => rfl
  | x :: l, h => by rw [List.flatMap_cons, List.flatMap_cons, h x List.mem_cons_self, fm_congr fun y hy => h y (List.mem_cons_of_mem _ hy)]
/-- what gives nothing may be left out -/
theorem flatMap_filter {α β : Type} (q : α → Bool) (f : α → List β) : ∀ l : List α, (∀ x ∈ l, q x = false → f x = []) → l.flatMap f = (l.filter q).flatMap f
  | [], _ => rfl
  | x :: l, h => by
    have ih := flatMap_filter q f l fun y hy => h y (List.mem_cons_of_mem _ hy)
    rw [List.flatMap_cons, List.filter_cons, ih]
    split
    · rw [List.flatMap_cons]
    · rw [h x List.mem_cons_self (by simpa using ‹¬ q x = true›), List.nil_append]
theorem span_cut {l g a b : Int} : (span l g).filter (fun x => decide (a ≤ x ∧ x ≤ b)) = span (max l a) (min g b) := by
  refine ris_uniq (List.Pairwise.filter _ (ris_span l g)) (ris_span _ _) fun k => ?_
  rw [List.mem_filter, mem_span, mem_span, decide_eq_true_eq]
  omega
/-- the rising lists of k numbers from l to g, in order -/
def Rw : Nat → Int → Int → List (List Int)
  | 0, _, _ => [[]]
  | k + 1, l, g => (span l g).flatMap fun s => (Rw k (s + 1) g).map (s :: ·)
theorem rw_mem : ∀ {k : Nat} {l g : Int} {r : List Int}, r ∈ Rw k l g → r.length = k ∧ (∀ x ∈ r, l ≤ x ∧ x ≤ g) ∧ Ris r
  | 0, l, g, r, h => by
    rw [List.mem_singleton.mp h]
    exact ⟨rfl, fun _ m => (nomatch m), List.Pairwise.nil⟩
  | k + 1, l, g, r, h => by
    obtain ⟨s, hs, h⟩ := List.mem_flatMap.mp h
    obtain ⟨t, ht, rfl⟩ := List.mem_map.mp h
    obtain ⟨a, b, c⟩ := rw_mem ht
    have hs := mem_span.mp hs
    refine ⟨by rw [List.length_cons, a], fun x hx => ?_, List.pairwise_cons.mpr ⟨fun x hx => by have := b x hx; omega, c⟩⟩
    rcases List.mem_cons.mp hx with rfl | hx
    · exact hs
    · have := b x hx
      omega
/-- a row comes to T / B -/
def Comes (r : List Int) (T B : Int) : Prop := (sumS r).1 * B = T * (sumS r).2
instance (r : List Int) (T B : Int) : Decidable (Comes r T B) := inferInstanceAs (Decidable (_ = _))
theorem fold_lin : ∀ (r : List Int) (u v : Int), r.foldl (fun q s => (q.1 * s + q.2, q.2 * s)) (u, v) = (u * (sumS r).2 + v * (sumS r).1, v * (sumS r).2) := fun r => by
  refine snoc_ind (fun r => ∀ u v : Int, r.foldl (fun q s => (q.1 * s + q.2, q.2 * s)) (u, v) = (u * (sumS r).2 + v * (sumS r).1, v * (sumS r).2)) r (fun u v => ?_) (fun r x ih u v => ?_)
  · show (u, v) = (u * 1 + v * 0, v * 1)
    rw [Int.mul_one, Int.mul_one, Int.mul_zero, Int.add_zero]
  · rw [List.foldl_append, ih, sumS_snoc]
    show ((u * (sumS r).2 + v * (sumS r).1) * x + v * (sumS r).2, v * (sumS r).2 * x) = (u * ((sumS r).2 * x) + v * ((sumS r).1 * x + (sumS r).2), v * ((sumS r).2 * x))
    rw [Int.add_mul, Int.mul_add, Int.mul_assoc, Int.mul_assoc, Int.mul_assoc, Int.add_assoc]
theorem sumS_cons (s : Int) (r : List Int) : sumS (s :: r) = ((sumS r).1 * s + (sumS r).2, s * (sumS r).2) := by
  have e := fold_lin r (0 * s + 1) (1 * s)
  have e : sumS (s :: r) = ((0 * s + 1) * (sumS r).2 + 1 * s * (sumS r).1, 1 * s * (sumS r).2) := e
  rw [e, Int.zero_mul, Int.zero_add, Int.one_mul, Int.one_mul, Int.add_comm, Int.mul_comm s (sumS r).1]
theorem comes_scale {r : List Int} {T B T' B' : Int} (hB : 1 ≤ B) (hB' : 1 ≤ B') (e : T * B' = T' * B) : Comes r T B ↔ Comes r T' B' := by
  unfold Comes
  generalize (sumS r).1 = N
  generalize (sumS r).2 = P
  constructor
  · intro h
    refine Int.eq_of_mul_eq_mul_right (a := B) (by omega) ?_
    calc N * B' * B = N * B * B' := by rw [Int.mul_right_comm]
      _ = T * B' * P := by rw [h, Int.mul_right_comm]
      _ = T' * P * B := by rw [e, Int.mul_right_comm]
  · intro h
    refine Int.eq_of_mul_eq_mul_right (a := B') (by omega) ?_
    calc N * B * B' = N * B' * B := by rw [Int.mul_right_comm]
      _ = T' * B * P := by rw [h, Int.mul_right_comm]
      _ = T * P * B' := by rw [← e, Int.mul_right_comm]
theorem comes_low {r : List Int} {T B : Int} (hB : 1 ≤ B) : Comes r (low T B).1 (low T B).2 ↔ Comes r T B :=
  comes_scale (low_bpos hB) hB (low_cross T B).symm
theorem comes_cons {s : Int} {r : List Int} {T B : Int} : Comes (s :: r) T B ↔ Comes r (T * s - 1 * B) (B * s) := by
  unfold Comes
  rw [sumS_cons]
  generalize (sumS r).1 = N
  generalize (sumS r).2 = P
  show (N * s + P) * B = T * (s * P) ↔ N * (B * s) = (T * s - 1 * B) * P
  have e1 : (N * s + P) * B = N * (B * s) + P * B := by
    rw [Int.add_mul, Int.mul_assoc, Int.mul_comm s B]
  have e2 : (T * s - 1 * B) * P = T * (s * P) - P * B := by
    rw [Int.sub_mul, Int.one_mul, Int.mul_assoc, Int.mul_comm B P]
  rw [e1, e2]
  omega
/-- k shares of numbers from s on are at most k / s -/
theorem sum_most {s : Int} (r : List Int) : (∀ x ∈ r, (1 : Int) ≤ x ∧ s ≤ x) → (sumS r).1 * s ≤ r.length * (sumS r).2 := by
  refine snoc_ind (fun r => (∀ x ∈ r, (1 : Int) ≤ x ∧ s ≤ x) → (sumS r).1 * s ≤ r.length * (sumS r).2) r (fun _ => ?_) (fun r x ih h => ?_)
  · show (0 : Int) * s ≤ 0 * 1
    omega
  · have i := ih fun y hy => h y (List.mem_append_left _ hy)
    obtain ⟨x1, x2⟩ := h x (List.mem_append_right _ List.mem_cons_self)
    have p := (sumS_pos r fun y hy => (h y (List.mem_append_left _ hy)).1).2.1
    rw [sumS_snoc, List.length_append, List.length_singleton]
    show ((sumS r).1 * x + (sumS r).2) * s ≤ ((r.length + 1 : Nat) : Int) * ((sumS r).2 * x)
    generalize (sumS r).1 = N at *
    generalize (sumS r).2 = P at *
    have a : N * s * x ≤ r.length * P * x := Int.mul_le_mul_of_nonneg_right i (by omega)
    have b : P * s ≤ P * x := Int.mul_le_mul_of_nonneg_left x2 (by omega)
    rw [Int.add_mul, Int.natCast_add, Int.add_mul, Int.mul_right_comm, ← Int.mul_assoc]
    show N * s * x + P * s ≤ (r.length : Int) * P * x + 1 * (P * x)
    omega
/-- the ways of T / B with k numbers from l to g, as the program looks for them -/
def Wy : Nat → Int → Int → Int → Int → List (List Int)
  | 0, T, _, _, _ => if T = 0 then [[]] else []
  | k + 1, T, B, l, g => if T = 0 then [] else (span (max l (upF B T)) (min g (((k + 1 : Nat) : Int) * B / T))).flatMap fun s => (Wy k (low (T * s - 1 * B) (B * s)).1 (low (T * s - 1 * B) (B * s)).2 (s + 1) g).map (s :: ·)
theorem wy_rw : ∀ (k : Nat) (T B l g : Int), 1 ≤ l → 0 ≤ T → 1 ≤ B → Wy k T B l g = (Rw k l g).filter fun r => decide (Comes r T B)
  | 0, T, B, l, g, hl, hT, hB => by
    show (if T = 0 then [[]] else []) = List.filter _ [[]]
    have c : Comes [] T B ↔ T = 0 := by
      show (0 : Int) * B = T * 1 ↔ T = 0
      rw [Int.zero_mul, Int.mul_one]
      exact eq_comm
    by_cases z : T = 0
    · rw [if_pos z, List.filter_cons, if_pos (decide_eq_true (c.mpr z))] <;> rfl
    · rw [if_neg z, List.filter_cons, if_neg (fun w => z (c.mp (of_decide_eq_true w)))] <;> rfl
  | k + 1, T, B, l, g, hl, hT, hB => by
    have pos : ∀ {s : Int} {r : List Int}, s ∈ span l g → r ∈ Rw k (s + 1) g → 0 ≤ (sumS r).1 ∧ 1 ≤ (sumS r).2 := fun {s r} hs hr => by
      have hs := mem_span.mp hs
      have := sumS_pos r fun x hx => by have := (rw_mem hr).2.1 x hx; omega
      exact ⟨this.1, this.2.1⟩
    show _ = List.filter _ ((span l g).flatMap fun s => (Rw k (s + 1) g).map (s :: ·))
    rw [List.filter_flatMap]
    by_cases z : T = 0
    · show (if T = 0 then [] else _) = _
      rw [if_pos z]
      symm
      refine List.flatMap_eq_nil_iff.mpr fun s hs => ?_
      refine List.filter_eq_nil_iff.mpr fun r hr => ?_
      obtain ⟨t, ht, rfl⟩ := List.mem_map.mp hr
      obtain ⟨n1, p1⟩ := pos hs ht
      have hs' := mem_span.mp hs
      intro w
      have w := of_decide_eq_true w
      unfold Comes at w
      rw [sumS_cons, z, Int.zero_mul] at w
      have w : ((sumS t).1 * s + (sumS t).2) * B = 0 := w
      have q : 0 ≤ (sumS t).1 * s := Int.mul_nonneg n1 (by omega)
      have : 0 < ((sumS t).1 * s + (sumS t).2) * B := Int.mul_pos (by omega) (by omega)
      omega
    · have hT1 : 1 ≤ T := by omega
      show (if T = 0 then [] else _) = _
      rw [if_neg z, ← span_cut]
      rw [flatMap_filter (fun x => decide (upF B T ≤ x ∧ x ≤ ((k + 1 : Nat) : Int) * B / T)) (fun s => List.filter (fun r => decide (Comes r T B)) ((Rw k (s + 1) g).map (s :: ·))) (span l g) (fun s hs hq => ?_)]
      · refine fm_congr fun s hs => ?_
        obtain ⟨hs, hq⟩ := List.mem_filter.mp hs
        have hq := of_decide_eq_true hq
        have hs' := mem_span.mp hs
        have sB : 1 ≤ B * s := Int.mul_pos (by omega) (by omega)
        have hi := upF_hi (B := B) hT1
        have nn : 0 ≤ T * s - 1 * B := by
          have : upF B T * T ≤ s * T := Int.mul_le_mul_of_nonneg_right hq.1 (by omega)
          rw [Int.mul_comm T s]
          omega
        rw [wy_rw k _ _ (s + 1) g (by omega) (low_tnn sB nn) (low_bpos sB), List.filter_map]
        congr 1
        refine List.filter_congr fun r hr => ?_
        exact decide_eq_decide.mpr ((comes_low sB).trans comes_cons.symm)
      · refine List.filter_eq_nil_iff.mpr fun r hr => ?_
        obtain ⟨t, ht, rfl⟩ := List.mem_map.mp hr
        obtain ⟨n1, p1⟩ := pos hs ht
        have hs' := mem_span.mp hs
        intro w
        have w := of_decide_eq_true w
        unfold Comes at w
        rw [sumS_cons] at w
        have w : ((sumS t).1 * s + (sumS t).2) * B = T * (s * (sumS t).2) := w
        have hq := of_decide_eq_false hq
        have m := sum_most (s := s) t fun x hx => by have := (rw_mem ht).2.1 x hx; omega
        rw [(rw_mem ht).1] at m
        generalize (sumS t).1 = N at *
        generalize (sumS t).2 = P at *
        have q0 : 0 ≤ N * s := Int.mul_nonneg n1 (by omega)
        have wr : T * (s * P) = s * T * P := by rw [Int.mul_comm s T, Int.mul_assoc]
        rw [wr] at w
        by_cases c : upF B T ≤ s
        · have c2 : ((k + 1 : Nat) : Int) * B / T < s := by omega
          have c3 : ((k + 1 : Nat) : Int) * B < s * T := (Int.ediv_lt_iff_lt_mul (by omega)).mp c2
          have d1 : (N * s + P) * B ≤ ((k + 1 : Nat) : Int) * P * B := by
            refine Int.mul_le_mul_of_nonneg_right ?_ (by omega)
            rw [Int.natCast_add, Int.add_mul]
            show N * s + P ≤ (k : Int) * P + 1 * P
            omega
          have d2 : ((k + 1 : Nat) : Int) * P * B < s * T * P := by
            rw [Int.mul_right_comm]
            exact Int.mul_lt_mul_of_pos_right c3 (by omega)
          omega
        · have c3 : s * T < B := by
            have lo := upF_lo (B := B) hT1
            have : s * T ≤ (upF B T - 1) * T := Int.mul_le_mul_of_nonneg_right (by omega) (by omega)
            omega
          have d1 : s * T * P < B * P := Int.mul_lt_mul_of_pos_right c3 (by omega)
          have d2 : P * B ≤ (N * s + P) * B := Int.mul_le_mul_of_nonneg_right (by omega) (by omega)
          rw [Int.mul_comm B P] at d1
          omega
/-- the law's own rows: one number more behind each -/
def lastI (r : List Int) : Int := r.getLastD 0
theorem lastI_snoc (r : List Int) (s : Int) : lastI (r ++ [s]) = s := by
  unfold lastI
  rw [List.getLastD_concat]
def ext (g : Int) (r : List Int) : List (List Int) := (span (lastI r + 1) g).map fun s => r ++ [s]
def Lw (g : Int) : Nat → List (List Int) → List (List Int)
  | 0, xs => xs
  | k + 1, xs => (Lw g k xs).flatMap (ext g)
theorem lw_flat (g : Int) : ∀ (k : Nat) (xs : List (List Int)), Lw g k xs = xs.flatMap fun x => Lw g k [x]
  | 0, xs => by
    show xs = xs.flatMap fun x => [x]
    simp
  | k + 1, xs => by
    show (Lw g k xs).flatMap (ext g) = xs.flatMap fun x => (Lw g k [x]).flatMap (ext g)
    rw [lw_flat g k xs, List.flatMap_assoc]
theorem lw_front (g : Int) : ∀ (k : Nat) (xs : List (List Int)), Lw g (k + 1) xs = Lw g k (xs.flatMap (ext g))
  | 0, xs => rfl
  | k + 1, xs => by
    show (Lw g (k + 1) xs).flatMap (ext g) = (Lw g k (xs.flatMap (ext g))).flatMap (ext g)
    rw [lw_front g k xs]
theorem lw_rw (g : Int) : ∀ (k : Nat) (p : List Int), Lw g k [p] = (Rw k (lastI p + 1) g).map (p ++ ·)
  | 0, p => by
    show [p] = [p ++ []]
    rw [List.append_nil]
  | k + 1, p => by
    rw [lw_front, lw_flat]
    show (([p].flatMap (ext g)).flatMap fun x => Lw g k [x]) = ((span (lastI p + 1) g).flatMap fun s => (Rw k (s + 1) g).map (s :: ·)).map (p ++ ·)
    rw [List.flatMap_singleton, List.map_flatMap]
    show (((span (lastI p + 1) g).map fun s => p ++ [s]).flatMap fun x => Lw g k [x]) = _
    rw [List.flatMap_map]
    refine fm_congr fun s _ => ?_
    rw [lw_rw g k (p ++ [s]), lastI_snoc, List.map_map]
    refine List.map_congr_left fun r _ => ?_
    show p ++ [s] ++ r = p ++ (s :: r)
    rw [List.append_assoc] <;> rfl
theorem lw_all (g : Int) (k : Nat) : Lw g k [[]] = Rw k 1 g := by
  rw [lw_rw]
  show (Rw k (0 + 1) g).map ([] ++ ·) = _
  rw [Int.zero_add]
  exact (List.map_congr_left fun r _ => List.nil_append r).trans (List.map_id _)
/-- all rows of up to m numbers; all ways of up to m shares -/
def rowsF (g : Int) (m : Nat) : List (List Int) := (List.range m).flatMap fun k => Lw g (k + 1) [[]]
def allF (T B g : Int) (m : Nat) : List (List Int) := (List.range m).flatMap fun k => Wy (k + 1) T B 1 g
theorem allF_snoc (T B g : Int) (m : Nat) : allF T B g (m + 1) = allF T B g m ++ Wy (m + 1) T B 1 g := by
  unfold allF
  rw [List.range_succ, flatMap_snoc]
theorem rowsF_snoc (g : Int) (m : Nat) : rowsF g (m + 1) = rowsF g m ++ Lw g (m + 1) [[]] := by
  unfold rowsF
  rw [List.range_succ, flatMap_snoc]
theorem all_rows {T B g : Int} (hT : 0 ≤ T) (hB : 1 ≤ B) (m : Nat) : allF T B g m = (rowsF g m).filter fun r => decide (Comes r T B) := by
  unfold allF rowsF
  rw [List.filter_flatMap]
  refine fm_congr fun k _ => ?_
  rw [wy_rw _ _ _ _ _ (Int.le_refl 1) hT hB, lw_all]
/-- how many -/
theorem rw_len : ∀ (k : Nat) (l g : Int), 1 ≤ l → 0 ≤ g → (Rw k l g).length ≤ g.toNat ^ k
  | 0, _, _, _, _ => Nat.le_refl 1
  | k + 1, l, g, hl, hg => by
    have each : ∀ s ∈ span l g, ((Rw k (s + 1) g).map (s :: ·)).length ≤ g.toNat ^ k := fun s hs => by
      rw [List.length_map]
      exact rw_len k (s + 1) g (by have := mem_span.mp hs; omega) hg
    have go : ∀ xs : List Int, (∀ s ∈ xs, ((Rw k (s + 1) g).map (s :: ·)).length ≤ g.toNat ^ k) → (xs.flatMap fun s => (Rw k (s + 1) g).map (s :: ·)).length ≤ xs.length * g.toNat ^ k := fun xs => by
      induction xs with
      | nil => exact fun _ => Nat.zero_le _
      | cons x xs ih =>
        intro h
        have a := h x List.mem_cons_self
        have b := ih fun s hs => h s (List.mem_cons_of_mem _ hs)
        rw [List.flatMap_cons, List.length_append, List.length_cons, Nat.add_mul, Nat.one_mul]
        omega
    have := go _ each
    rw [span_len] at this
    refine Nat.le_trans this ?_
    rw [Nat.pow_succ, Nat.mul_comm (g.toNat ^ k)]
    exact Nat.mul_le_mul_right _ (by omega)
theorem wy_len {k : Nat} {T B l g : Int} (hl : 1 ≤ l) (hT : 0 ≤ T) (hB : 1 ≤ B) (hg : 0 ≤ g) : (Wy k T B l g).length ≤ g.toNat ^ k := by
  rw [wy_rw _ _ _ _ _ hl hT hB]
  exact Nat.le_trans (List.length_filter_le _ _) (rw_len k l g hl hg)
theorem wy_mem {k : Nat} {T B l g : Int} (hl : 1 ≤ l) (hT : 0 ≤ T) (hB : 1 ≤ B) {r : List Int} (h : r ∈ Wy k T B l g) : r ∈ Rw k l g ∧ Comes r T B := by
  rw [wy_rw _ _ _ _ _ hl hT hB] at h
  obtain ⟨a, b⟩ := List.mem_filter.mp h
  exact ⟨a, of_decide_eq_true b⟩

--: math = ways
/-! ### lists of lists in a heap -/
/-- all but F is kept -/
def SameB (F : Addr) (H H' : Hp) : Prop := ∀ b o, b ≠ F → H b = some o → H' b = some o
theorem SameB.refl {F : Addr} (H : Hp) : SameB F H H := fun _ _ _ h => h
theorem SameB.of {F : Addr} {H H' : Hp} (s : Same H H') : SameB F H H' := fun b o _ e => s b o e
theorem SameB.trans {F : Addr} {H H1 H2 : Hp} (a : SameB F H H1) (b : SameB F H1 H2) : SameB F H H2 := fun c o n e => b c o n (a c o n e)
theorem SameB.put {F : Addr} {H : Hp} {o : HO} : SameB F H (upd H F o) := fun b u n e => by
  rw [upd_ne n]
  exact e
theorem SameB.free {F b : Addr} {H H' : Hp} (s : SameB F H H') (n : b ≠ F) (h : H' b = none) : H b = none := by
  cases e : H b with
  | none => rfl
  | some o =>
    rw [s b o n e] at h
    cases h
theorem SameB.same {F : Addr} {H0 H H' : Hp} (a : Same H0 H) (n : H0 F = none) (s : SameB F H H') : Same H0 H' := fun b o e => s b o (ne_of_none e n) (a b o e)
/-- at ps stand new lists, these rows -/
structure Rws (H0 H : Hp) (ps : List Addr) (rs : List (List Int)) : Prop where
  len : ps.length = rs.length
  each : ∀ (i : Nat) (p : Addr) (r : List Int), ps[i]? = some p → rs[i]? = some r → H0 p = none ∧ H p = some (.lst (r.map V.int))
theorem Rws.nil {H0 H : Hp} : Rws H0 H [] [] := ⟨rfl, fun _ _ _ e => nomatch e⟩
theorem Rws.get {H0 H : Hp} {ps : List Addr} {rs : List (List Int)} (h : Rws H0 H ps rs) {i : Nat} {p : Addr} (e : ps[i]? = some p) : ∃ r, rs[i]? = some r ∧ H0 p = none ∧ H p = some (.lst (r.map V.int)) := by
  have hl := lt_of_get e
  rw [h.len] at hl
  exact ⟨rs[i], List.getElem?_eq_getElem hl, h.each i p _ e (List.getElem?_eq_getElem hl)⟩
theorem Rws.at {H0 H : Hp} {ps : List Addr} {rs : List (List Int)} (h : Rws H0 H ps rs) {i : Nat} {r : List Int} (e : rs[i]? = some r) : ∃ p, ps[i]? = some p ∧ H0 p = none ∧ H p = some (.lst (r.map V.int)) := by
  have hl := lt_of_get e
  rw [← h.len] at hl
  exact ⟨ps[i], List.getElem?_eq_getElem hl, h.each i _ r (List.getElem?_eq_getElem hl) e⟩
theorem Rws.mem {H0 H : Hp} {ps : List Addr} {rs : List (List Int)} (h : Rws H0 H ps rs) {p : Addr} (m : p ∈ ps) : H0 p = none ∧ ∃ r, r ∈ rs ∧ H p = some (.lst (r.map V.int)) := by
  obtain ⟨i, e⟩ := List.mem_iff_getElem?.mp m
  obtain ⟨r, er, a, b⟩ := h.get e
  exact ⟨a, r, List.mem_of_getElem? er, b⟩
theorem Rws.not {H0 H : Hp} {ps : List Addr} {rs : List (List Int)} (h : Rws H0 H ps rs) {F : Addr} {o : HO} (e : H0 F = some o) : F ∉ ps := fun m => by
  rw [(h.mem m).1] at e
  cases e
theorem Rws.same {H0 H H' : Hp} {ps : List Addr} {rs : List (List Int)} (h : Rws H0 H ps rs) (s : Same H H') : Rws H0 H' ps rs := ⟨h.len, fun i p r a b => ⟨(h.each i p r a b).1, s _ _ (h.each i p r a b).2⟩⟩
theorem Rws.sameB {H0 H H' : Hp} {F : Addr} {ps : List Addr} {rs : List (List Int)} (h : Rws H0 H ps rs) (s : SameB F H H') (n : F ∉ ps) : Rws H0 H' ps rs :=
  ⟨h.len, fun i p r a b => ⟨(h.each i p r a b).1, s _ _ (fun z => n (z ▸ List.mem_of_getElem? a)) (h.each i p r a b).2⟩⟩
theorem Rws.base {H0 H1 H : Hp} {ps : List Addr} {rs : List (List Int)} (h : Rws H1 H ps rs) (s : Same H0 H1) : Rws H0 H ps rs := ⟨h.len, fun i p r a b => ⟨s.free (h.each i p r a b).1, (h.each i p r a b).2⟩⟩
theorem Rws.baseB {H0 H1 H : Hp} {F : Addr} {o : HO} {ps : List Addr} {rs : List (List Int)} (h : Rws H1 H ps rs) (s : SameB F H0 H1) (e : H1 F = some o) : Rws H0 H ps rs :=
  ⟨h.len, fun i p r a b => ⟨s.free (fun z => h.not e (z ▸ List.mem_of_getElem? a)) (h.each i p r a b).1, (h.each i p r a b).2⟩⟩
theorem Rws.append {H0 H : Hp} {ps qs : List Addr} {rs ts : List (List Int)} (h : Rws H0 H ps rs) (g : Rws H0 H qs ts) : Rws H0 H (ps ++ qs) (rs ++ ts) := ⟨by rw [List.length_append, List.length_append, h.len, g.len], fun i p r a b => by
  by_cases c : i < ps.length
  · rw [List.getElem?_append_left c] at a
    rw [List.getElem?_append_left (by rw [← h.len]; exact c)] at b
    exact h.each i p r a b
  · rw [List.getElem?_append_right (by omega)] at a
    rw [List.getElem?_append_right (by rw [← h.len]; omega), ← h.len] at b
    exact g.each _ p r a b⟩
theorem Rws.one {H0 H : Hp} {p : Addr} {r : List Int} (a : H0 p = none) (b : H p = some (.lst (r.map V.int))) : Rws H0 H [p] [r] := ⟨rfl, fun i q t e1 e2 => by
  have hi : i < 1 := lt_of_get e1
  obtain rfl : i = 0 := by omega
  cases e1
  cases e2
  exact ⟨a, b⟩⟩
theorem take_flat_len {α β : Type} (f : α → List β) (l : List α) (i : Nat) : ((l.take i).flatMap f).length ≤ (l.flatMap f).length := by
  conv => rhs; rw [← List.take_append_drop i l]
  rw [List.flatMap_append, List.length_append]
  omega
theorem ways_arg {r : Addr} {x s g : Int} {k : Nat} (h : x = k) : [V.ref r, V.int x, V.int s, V.int g] = [V.ref r, V.int (k : Int), V.int s, V.int g] := by rw [h]
theorem pow60 {g : Int} {k : Nat} (h0 : 0 ≤ g) (hg : g ≤ 60) (hk : k ≤ 4) : g.toNat ^ k ≤ 12960000 := by
  have a : g.toNat ^ k ≤ 60 ^ k := Nat.pow_le_pow_left (by omega) k
  have b : 60 ^ k ≤ 60 ^ 4 := Nat.pow_le_pow_right (by decide) hk
  exact Nat.le_trans a (Nat.le_trans b (by decide))
theorem at_lastI {r : List Int} (h : r ≠ []) : atI (r.map V.int) (-1) = some (.int (lastI r)) := by
  obtain ⟨l, x, rfl⟩ : ∃ l x, r = l ++ [x] := ⟨r.dropLast, r.getLast h, (List.dropLast_concat_getLast h).symm⟩
  rw [lastI_snoc, List.map_append]
  exact atI_last _ _
theorem lw_len {g : Int} {k : Nat} (h0 : 0 ≤ g) (hg : g ≤ 60) (hk : k ≤ 4) : (Lw g k [[]]).length ≤ 60 ^ k := by
  rw [lw_all]
  exact Nat.le_trans (rw_len k 1 g (Int.le_refl 1) h0) (Nat.pow_le_pow_left (by omega) k)
theorem rowsF_len {g : Int} (h0 : 0 ≤ g) (hg : g ≤ 60) {m : Nat} (hm : m ≤ 4) : (rowsF g m).length ≤ 13179660 := by
  have w : ∀ k, k ≤ 4 → (Lw g k [[]]).length ≤ 60 ^ k := fun k hk => lw_len h0 hg hk
  have a0 : (rowsF g 0).length ≤ 0 := Nat.le_refl 0
  have a1 : (rowsF g 1).length ≤ 60 := by
    rw [rowsF_snoc, List.length_append]
    show (rowsF g 0).length + (Lw g 1 [[]]).length ≤ 60
    have := w 1 (by decide)
    omega
  have a2 : (rowsF g 2).length ≤ 3660 := by
    rw [rowsF_snoc, List.length_append]
    show (rowsF g 1).length + (Lw g 2 [[]]).length ≤ 3660
    have := w 2 (by decide)
    omega
  have a3 : (rowsF g 3).length ≤ 219660 := by
    rw [rowsF_snoc, List.length_append]
    show (rowsF g 2).length + (Lw g 3 [[]]).length ≤ 219660
    have := w 3 (by decide)
    omega
  have a4 : (rowsF g 4).length ≤ 13179660 := by
    rw [rowsF_snoc, List.length_append]
    show (rowsF g 3).length + (Lw g 4 [[]]).length ≤ 13179660
    have := w 4 (by decide)
    omega
  obtain rfl | rfl | rfl | rfl | rfl : m = 0 ∨ m = 1 ∨ m = 2 ∨ m = 3 ∨ m = 4 := by omega
  · exact Nat.le_trans a0 (by decide)
  · exact Nat.le_trans a1 (by decide)
  · exact Nat.le_trans a2 (by decide)
  · exact Nat.le_trans a3 (by decide)
  · exact a4
theorem lw_row {g : Int} {k : Nat} {r : List Int} (h : r ∈ Lw g k [[]]) : r.length = k ∧ ∀ x ∈ r, 1 ≤ x ∧ x ≤ g := by
  rw [lw_all] at h
  exact ⟨(rw_mem h).1, (rw_mem h).2.1⟩
/-! ### lists of rows, compared -/
theorem Rws.dp {K : PySem.W.Frag} {H0 H : Hp} : ∀ {ps : List Addr} {rs : List (List Int)}, Rws H0 H ps rs → DpAll K H (ps.map V.ref) (rs.map fun r => PyData.list (r.map PyData.int))
  | [], [], _ => .nil
  | [], r :: rs, h => absurd h.len (by simp)
  | p :: ps, [], h => absurd h.len (by simp)
  | p :: ps, r :: rs, h => .cons (dp_ints (SqL.of (h.each 0 p r rfl rfl).2)) (Rws.dp ⟨by simpa using h.len, fun i p r a b => h.each (i + 1) p r a b⟩)
theorem Rws.dpl {K : PySem.W.Frag} {H0 H : Hp} {ps : List Addr} {rs : List (List Int)} (h : Rws H0 H ps rs) {F : Addr} (e : H F = some (.lst (ps.map V.ref))) : Dp K H (.ref F) (.list (rs.map fun r => PyData.list (r.map PyData.int))) := .lst (SqL.of e) h.dp
theorem canLay_rows : ∀ rs : List (List Int), PyData.canLayAll0 (rs.map fun r => PyData.list (r.map PyData.int)) = true
  | [] => rfl
  | r :: rs => by
    simp only [List.map_cons, PyData.canLayAll0, PyData.canLay0, canLay_ints, canLay_rows rs]
    rfl
theorem depth_rows : ∀ rs : List (List Int), PyData.depthAll (rs.map fun r => PyData.list (r.map PyData.int)) ≤ 1
  | [] => by simp [PyData.depthAll]
  | r :: rs => by
    have ih := depth_rows rs
    simp only [List.map_cons, PyData.depthAll, PyData.depth, depth_ints]
    omega
theorem shaped_rows (rs : List (List Int)) : SeqAt.shaped (.list (rs.map fun r => PyData.list (r.map PyData.int))) = true := by
  have d := depth_rows rs
  have c := canLay_rows rs
  have e : PyData.depth (.list (rs.map fun r => PyData.list (r.map PyData.int))) ≤ 64 := by
    simp only [PyData.depth]
    omega
  have l : PyData.canLay0 (.list (rs.map fun r => PyData.list (r.map PyData.int))) = true := by
    simp only [PyData.canLay0]
    exact c
  unfold SeqAt.shaped
  rw [l, decide_eq_true e] <;> rfl
theorem eqvAll_rows : ∀ xs ys : List (List Int), PyData.eqvAll (xs.map fun r => PyData.list (r.map PyData.int)) (ys.map fun r => PyData.list (r.map PyData.int)) = decide (xs = ys)
  | [], [] => by simp [PyData.eqvAll]
  | [], y :: ys => by simp [PyData.eqvAll]
  | x :: xs, [] => by simp [PyData.eqvAll]
  | x :: xs, y :: ys => by
    have ih := eqvAll_rows xs ys
    have e := eqv_ints x y
    simp only [List.map_cons, PyData.eqvAll, ih, e]
    rw [Bool.eq_iff_iff]
    simp
theorem eqv_rows (xs ys : List (List Int)) : PyData.eqv (.list (xs.map fun r => PyData.list (r.map PyData.int))) (.list (ys.map fun r => PyData.list (r.map PyData.int))) = decide (xs = ys) := by
  rw [← eqvAll_rows]
  simp only [PyData.eqv]
/-- a row of numbers from 1 to 60, at most four of them, is one that may be summed -/
theorem row_ok {r : List Int} {g : Int} (hg : g ≤ 60) (hl : r.length ≤ 4) (h : ∀ x ∈ r, 1 ≤ x ∧ x ≤ g) : SumOk r where
  pos := fun x hx => (h x hx).1
  sz := by
    have p := prod_sz (m := 6) r fun x hx => ⟨(h x hx).1, by have := h x hx; show x.natAbs < 64; omega⟩
    exact p.mono (by omega)
  len := by omega

--: math = rows
/-! ### the order of all ways -/
theorem ord_rw : ∀ (k : Nat) (l g : Int), (Rw k l g).Pairwise (· < ·)
  | 0, _, _ => List.pairwise_singleton _ _
  | k + 1, l, g => by
    refine List.pairwise_flatMap.mpr ⟨fun s _ => ?_, (ris_span l g).imp fun {s t} hst x hx y hy => ?_⟩
    · exact List.pairwise_map.mpr ((ord_rw k (s + 1) g).imp fun h => List.cons_lt_cons_iff.mpr (.inr ⟨rfl, h⟩))
    · obtain ⟨a, _, rfl⟩ := List.mem_map.mp hx
      obtain ⟨b, _, rfl⟩ := List.mem_map.mp hy
      exact List.cons_lt_cons_iff.mpr (.inl hst)
/-- fewer numbers first, of as many the lesser one at the first place where they differ -/
def Ahead (r t : List Int) : Prop := r.length < t.length ∨ (r.length = t.length ∧ r < t)
theorem ahead_rows (g : Int) (m : Nat) : (rowsF g m).Pairwise Ahead := by
  unfold rowsF
  refine List.pairwise_flatMap.mpr ⟨fun k _ => ?_, List.pairwise_lt_range.imp fun {i j} hij x hx y hy => ?_⟩
  · rw [lw_all]
    refine (ord_rw (k + 1) 1 g).imp_of_mem fun {a b} ha hb h => .inr ⟨?_, h⟩
    rw [(rw_mem ha).1, (rw_mem hb).1]
  · left
    rw [(lw_row hx).1, (lw_row hy).1]
    omega
/-- where a row of numbers from l to g stands -/
theorem rw_in : ∀ {r : List Int} {l g : Int}, (∀ x ∈ r, l ≤ x ∧ x ≤ g) → Ris r → r ∈ Rw r.length l g
  | [], _, _, _, _ => List.mem_cons_self
  | s :: r, l, g, h, p => by
    obtain ⟨p1, p2⟩ := List.pairwise_cons.mp p
    refine List.mem_flatMap.mpr ⟨s, mem_span.mpr (h s List.mem_cons_self), List.mem_map.mpr ⟨r, ?_, rfl⟩⟩
    exact rw_in (fun x hx => by have := p1 x hx; have := h x (List.mem_cons_of_mem _ hx); omega) p2
/-! ### >= of data -/
def rGeD (K : PySem.W.Frag) : R2 := fun x y H Q => ∃ d e, Dp K H x d ∧ Dp K H y e ∧ PySem.W.alike d e = true ∧ d ≠ .none ∧ d.depth ≤ 60 ∧ Q (.bl (!PySem.W.dataLt d e)) H
theorem op_geD {X : Cx} (hu : X.A.units + 64 < cLine) : OpR X (compareOp .GtE) (rGeD X.K) := by
  intro pins s σ H x y v u Q I rx ry h
  obtain ⟨d, e, hd, he, al, nn, dp, q⟩ := h
  obtain ⟨as, r1⟩ := Dp.reads I d x v hd rx
  obtain ⟨bs, r2⟩ := Dp.reads I e y u he ry
  exact PySem.W.ge_data r1 r2 al nn (by omega) ⟨.bl _, H, I, rfl, q⟩
theorem alike_ints : ∀ xs ys : List Int, PySem.W.alikeAll (xs.map PyData.int) (ys.map PyData.int) = true
  | [], _ => by simp [PySem.W.alikeAll]
  | _ :: _, [] => by simp [PySem.W.alikeAll]
  | x :: xs, y :: ys => by
    have ih := alike_ints xs ys
    simp [PySem.W.alikeAll, PySem.W.alike, ih]
theorem alike_list (xs ys : List Int) : PySem.W.alike (.list (xs.map PyData.int)) (.list (ys.map PyData.int)) = true := by
  have := alike_ints xs ys
  simp [PySem.W.alike, this]
theorem lt_ahead {r t : List Int} (h : Ahead r t) : PySem.W.dataLt (.tuple [.int (r.length : Int), .list (r.map PyData.int)]) (.tuple [.int (t.length : Int), .list (t.map PyData.int)]) = true := by
  have e : PySem.W.dataLt (.list (r.map PyData.int)) (.list (t.map PyData.int)) = decide (r < t) := by
    rw [PySem.W.dataLt_list]
    exact PySem.W.dataLt_ints r t
  have q : PyData.eqv (.int (r.length : Int)) (.int (t.length : Int)) = decide (r.length = t.length) := by
    simp only [PyData.eqv]
    rw [Bool.eq_iff_iff]
    simp
    omega
  rw [PySem.W.dataLt_pair (by simp [PySem.W.alike]) (alike_list r t), q, eqv_ints, e, PySem.W.dataLt_int]
  rcases h with h | ⟨h1, h2⟩
  · rw [decide_eq_false (by omega), if_neg (by simp)]
    exact decide_eq_true (by omega)
  · rw [decide_eq_true h1, if_pos rfl]
    have ne : r ≠ t := fun z => by
      rw [z] at h2
      exact absurd h2 (List.lt_irrefl t)
    rw [decide_eq_false ne, if_neg (by simp)]
    exact decide_eq_true h2
theorem room65 {k : Nat} {A : Around} (r : Room k A) : A.units + 65 < cLine := by
  have := r.un
  omega

structure ErrA where
  ShareError : Addr
  NoFraction : Addr
  NotBelow : Addr
  TooGreat : Addr
  BadText : Addr
  NotRising : Addr
structure ErrC (K : PySem.W.Frag) (mg : Str → Option Value) (C S : Addr) (x : Str) : Prop where
  g : mg x = some (.ref C)
  x : PySem.W.excIn K C veT "ValueError.__new__" = true
  k : PySem.W.keepIn K (.ref C) = true
  b : PySem.W.subIn K (.ref C) (.type "BaseException") = some true
  t : PySem.W.typeIn K (.ref C) = some (.type "type")
structure ErrOk (K : PySem.W.Frag) (mg : Str → Option Value) (e : ErrA) : Prop where
  ShareError : ErrC K mg e.ShareError e.ShareError "ShareError"
  NoFraction : ErrC K mg e.NoFraction e.ShareError "NoFraction"
  NotBelow : ErrC K mg e.NotBelow e.ShareError "NotBelow"

section
variable {P : Program} {w : World} {K : PySem.W.Frag} {mg : Str → Option Value} {base : Heap} {e : ErrA}

abbrev s_see : Stmt := topS 5
abbrev N_see : List Str := ["fraction"]
theorem sc_see : FnScope N_see ["fraction"] (defScope s_see) := ⟨rfl, rfl, rfl, by decide +kernel, rfl, by decide +kernel, by decide +kernel⟩
def sp_see (K : PySem.W.Frag) (e : ErrA) : Sp := fun vs H Q E => ∃ (a : Addr) (t b : Int), vs = [.ref a] ∧ SqT K H a [.int t, .int b] ∧ ((t < 0 ∨ b < 1) → E (.ref e.NoFraction) none H) ∧ (¬ (t < 0 ∨ b < 1) → Q .non H)
theorem ok_see (D : Stands K mg "see" s_see) (B : Bi mg) (Er : ErrOk K mg e) : Keeps P w K mg base 1 "see" ["fraction"] (sp_see K e) := by
  obtain ⟨f, fd, F, mF⟩ := D
  have h_NoFraction := Er.NoFraction
  refine ⟨f, fd, ?_, F.binds (ps := ["fraction"]) (fun _ _ _ _ _ _ us hl => match us, hl with | [_], _ => rfl), mF, F.kp⟩
  refine F.okX sc_see (fun vs H Q E h => ?_) (fun cdv A outer s H vs Q E hr h => ?_)
  · obtain ⟨a, t, b, rfl, hS, kE, kQ⟩ := h
    rfl
  · obtain ⟨a, t, b, rfl, hS, kE, kQ⟩ := h
    refine ⟨_, (pss_one (ps_if (PW.pt (pw_or (pt_cmpR op_lt (pe_ix ix_tup (pv 0) pe_int (fun _ _ => rfl)) pe_int (nomark _)) (pw_or1 (pt_cmpR op_lt (pe_ix ix_tup (pv 0) pe_int (fun _ _ => rfl)) pe_int (nomark _))))) (pss_one (ps_raise rfl (takes_of rfl rfl rfl rfl) (pmk_own PySem.F.excBase_ValueError h_NoFraction.x h_NoFraction.g h_NoFraction.k (raises_own h_NoFraction.b h_NoFraction.t) rfl))) pss_nil)), ?_⟩
    refine ⟨_, rfl, a, _, 0, _, rfl, rfl, hS, atI_nat (j := 0) rfl, _, _, rfl, rfl, _, rfl, ite2 (fun c => ?_) (fun c => ?_)⟩
    · refine iteT ?_
      exact kE (.inl (of_decide_eq_true c))
    · have c0 : ¬ t < 0 := fun z => c (decide_eq_true z)
      refine ⟨_, rfl, a, _, 1, _, rfl, rfl, hS, atI_nat (j := 1) rfl, _, _, rfl, rfl, _, rfl, ite2 (fun c => ?_) (fun c => ?_)⟩
      · exact kE (.inr (of_decide_eq_true c))
      · exact kQ fun z => z.elim c0 fun z => c (decide_eq_true z)

abbrev s_common : Stmt := topS 6
abbrev N_common : List Str := ["one", "other", "rest"]
theorem sc_common : FnScope N_common ["one", "other"] (defScope s_common) := ⟨rfl, rfl, rfl, by decide +kernel, rfl, by decide +kernel, by decide +kernel⟩
def sp_common (K : PySem.W.Frag) (_ : ErrA) : Sp := fun vs H Q _ => ∃ x y : Int, vs = [.int x, .int y] ∧ 0 ≤ x ∧ 0 ≤ y ∧ Q (.int (gc x y)) H
theorem ok_common (D : Stands K mg "common" s_common) (B : Bi mg) (Er : ErrOk K mg e) : Keeps P w K mg base 1 "common" ["one", "other"] (sp_common K e) := by
  obtain ⟨f, fd, F, mF⟩ := D
  refine ⟨f, fd, ?_, F.binds (ps := ["one", "other"]) (fun _ _ _ _ _ _ us hl => match us, hl with | [_, _], _ => rfl), mF, F.kp⟩
  refine toX (F.ok sc_common (fun vs H Q E h => ?_) (fun cdv A outer s H vs Q E hr h => ?_))
  · obtain ⟨x, y, rfl, hx, hy, q⟩ := h
    rfl
  · obtain ⟨x, y, rfl, hx, hy, q⟩ := h
    refine ⟨_, (pss_cons (ps_while PassesOwn.never (pt_cmpR op_gt (pv 1) pe_int (nomark _)) (pss_cons (ps_set (i := 2) sc_common.nd rfl (Or.inl rfl) (pe_op op_mod (pv 0) (pv 1)))
      (pss_cons (ps_set (i := 0) sc_common.nd rfl (Or.inl rfl) (pv 1))
      (pss_one (ps_set (i := 1) sc_common.nd rfl (Or.inl rfl) (pv 2))))))
      (pss_one (ps_ret (pv 0)))), ?_⟩
    refine while_by (fun σ H' => H' = H ∧ ∃ (u v : Int) (r : Option V), σ = [some (.int u), some (.int v), r] ∧ 0 ≤ u ∧ 0 ≤ v ∧ gc u v = gc x y)
      (fun σ _ => match σ with | [_, some (.int v), _] => v.toNat | _ => 0) ⟨rfl, x, y, none, rfl, hx, hy, rfl⟩ ?_ ?_
    · rintro σ H' ⟨rfl, u, v, r, rfl, hu, hv, hg⟩
      refine ⟨_, rfl, _, _, rfl, rfl, _, rfl, ite2 (fun c => ?_) (fun c => ?_)⟩
      · have c := of_decide_eq_true c
        have m1 := Int.emod_nonneg u (b := v) (by omega)
        have m2 := Int.emod_lt_of_pos u c
        refine ⟨_, rfl, _, rfl, _, _, rfl, rfl, c, _, rfl, _, rfl, ⟨rfl, v, u % v, _, rfl, hv, m1, gc_step.trans hg⟩, ?_⟩
        show (u % v).toNat < v.toNat
        omega
      · have c : ¬ 0 < v := fun z => c (decide_eq_true z)
        have v0 : v = 0 := by omega
        subst v0
        rw [gc_zero hu] at hg
        refine ⟨_, rfl, ?_⟩
        rw [hg]
        exact q
    · rintro σ H' Q1 Q2 hq ⟨v, e1, i, j, e2, e3, k, e4, e5⟩
      exact ⟨v, e1, i, j, e2, e3, k, e4, hq _ _ e5⟩

abbrev s_lowest : Stmt := topS 7
abbrev N_lowest : List Str := ["fraction", "far"]
theorem sc_lowest : FnScope N_lowest ["fraction"] (defScope s_lowest) := ⟨rfl, rfl, rfl, by decide +kernel, rfl, by decide +kernel, by decide +kernel⟩
def sp_lowest (K : PySem.W.Frag) (e : ErrA) : Sp := fun vs H Q E => ∃ (a : Addr) (t b : Int), vs = [.ref a] ∧ SqT K H a [.int t, .int b] ∧ Sz 9000 b ∧ ((t < 0 ∨ b < 1) → E (.ref e.NoFraction) none H) ∧
  (¬ (t < 0 ∨ b < 1) → ∀ H' p, Same H H' → H p = none → H' p = some (.tup [.int (low t b).1, .int (low t b).2]) → Q (.ref p) H')
theorem ok_lowest (D : Stands K mg "lowest" s_lowest) (B : Bi mg) (Er : ErrOk K mg e)
    (h_see : Keeps P w K mg base 1 "see" ["fraction"] (sp_see K e))
    (h_common : Keeps P w K mg base 1 "common" ["one", "other"] (sp_common K e)) : Keeps P w K mg base 2 "lowest" ["fraction"] (sp_lowest K e) := by
  obtain ⟨f, fd, F, mF⟩ := D
  obtain ⟨f_see, fd_see, G_see, b_see, m_see, k_see⟩ := h_see
  obtain ⟨f_common, fd_common, G_common, b_common, m_common, k_common⟩ := h_common
  refine ⟨f, fd, ?_, F.binds (ps := ["fraction"]) (fun _ _ _ _ _ _ us hl => match us, hl with | [_], _ => rfl), mF, F.kp⟩
  refine F.okX sc_lowest (fun vs H Q E h => ?_) (fun cdv A outer s H vs Q E hr h => ?_)
  · obtain ⟨a, t, b, rfl, hS, hz, kE, kQ⟩ := h
    rfl
  · obtain ⟨a, t, b, rfl, hS, hz, kE, kQ⟩ := h
    refine ⟨_, (pss_cons (ps_expr (pe_call G_see (hr.mono (by decide)) (by rfl) m_see k_see b_see .nil (passes_call (E := E) (takes_of rfl rfl rfl rfl) (fun _ _ _ _ h => h)) (pa_cons (pv 0) pa_nil)))
      (pss_cons (ps_set (i := 1) sc_lowest.nd rfl (Or.inl rfl) (pe_call G_common (hr.mono (by decide)) (by rfl) m_common k_common b_common .nil passL (pa_cons (pe_ix ix_tup (pv 0) pe_int (fun _ _ => rfl)) (pa_cons (pe_ix ix_tup (pv 0) pe_int (fun _ _ => rfl)) pa_nil))))
      (pss_one (ps_ret (pe_tup (pa_cons (pe_op op_fdivP (pe_ix ix_tup (pv 0) pe_int (fun _ _ => rfl)) (pv 1)) (pa_cons (pe_op op_fdivP (pe_ix ix_tup (pv 0) pe_int (fun _ _ => rfl)) (pv 1)) pa_nil))))))), ?_⟩
    refine ⟨_, rfl, a, t, b, rfl, hS, fun c => kE c, fun c => ?_⟩
    have hb : 1 ≤ b := by omega
    have ht : 0 ≤ t := by omega
    have hf := gc_pos (t := t) hb
    have hfz : Sz 9000 (gc t b) := hz.le (by omega) (gc_le hb)
    refine ⟨_, rfl, a, _, 0, _, rfl, rfl, hS, atI_nat (j := 0) rfl, _, rfl, a, _, 1, _, rfl, rfl, hS, atI_nat (j := 1) rfl, t, b, rfl, ht, by omega, ?_⟩
    refine ⟨_, rfl, a, _, 0, _, rfl, rfl, hS, atI_nat (j := 0) rfl, _, rfl, _, _, rfl, rfl, hfz.cd hf, ?_⟩
    refine ⟨_, rfl, a, _, 1, _, rfl, rfl, hS, atI_nat (j := 1) rfl, _, rfl, _, _, rfl, rfl, hfz.cd hf, by show 2 ≤ sizeLine; decide, fun p hp => ?_⟩
    exact kQ c _ p (same_new hp) hp upd_same

abbrev s_less : Stmt := topS 8
abbrev N_less : List Str := ["one", "other"]
theorem sc_less : FnScope N_less ["one", "other"] (defScope s_less) := ⟨rfl, rfl, rfl, by decide +kernel, rfl, by decide +kernel, by decide +kernel⟩
def sp_less (K : PySem.W.Frag) (e : ErrA) : Sp := fun vs H Q E => ∃ (a c : Addr) (t b u d : Int), vs = [.ref a, .ref c] ∧ SqT K H a [.int t, .int b] ∧ SqT K H c [.int u, .int d] ∧ Sz 4400 t ∧ Sz 4400 b ∧ Sz 4400 u ∧ Sz 4400 d ∧
  ((t < 0 ∨ b < 1 ∨ u < 0 ∨ d < 1) → E (.ref e.NoFraction) none H) ∧ (0 ≤ t → 1 ≤ b → 0 ≤ u → 1 ≤ d → Q (.bl (decide (t * d < u * b))) H)
theorem ok_less (D : Stands K mg "less" s_less) (B : Bi mg) (Er : ErrOk K mg e)
    (h_see : Keeps P w K mg base 1 "see" ["fraction"] (sp_see K e)) : Keeps P w K mg base 2 "less" ["one", "other"] (sp_less K e) := by
  obtain ⟨f, fd, F, mF⟩ := D
  obtain ⟨f_see, fd_see, G_see, b_see, m_see, k_see⟩ := h_see
  refine ⟨f, fd, ?_, F.binds (ps := ["one", "other"]) (fun _ _ _ _ _ _ us hl => match us, hl with | [_, _], _ => rfl), mF, F.kp⟩
  refine F.okX sc_less (fun vs H Q E h => ?_) (fun cdv A outer s H vs Q E hr h => ?_)
  · obtain ⟨a, c, t, b, u, d, rfl, hA, hC, z1, z2, z3, z4, kE, kQ⟩ := h
    rfl
  · obtain ⟨a, c, t, b, u, d, rfl, hA, hC, z1, z2, z3, z4, kE, kQ⟩ := h
    refine ⟨_, (pss_cons (ps_expr (pe_call G_see (hr.mono (by decide)) (by rfl) m_see k_see b_see .nil (passes_call (E := E) (takes_of rfl rfl rfl rfl) (fun _ _ _ _ h => h)) (pa_cons (pv 0) pa_nil)))
      (pss_cons (ps_expr (pe_call G_see (hr.mono (by decide)) (by rfl) m_see k_see b_see .nil (passes_call (E := E) (takes_of rfl rfl rfl rfl) (fun _ _ _ _ h => h)) (pa_cons (pv 1) pa_nil)))
      (pss_one (ps_ret (pe_cmpR op_lt (pe_op op_mulW (pe_ix ix_tup (pv 0) pe_int (fun _ _ => rfl)) (pe_ix ix_tup (pv 1) pe_int (fun _ _ => rfl))) (pe_op op_mulW (pe_ix ix_tup (pv 1) pe_int (fun _ _ => rfl)) (pe_ix ix_tup (pv 0) pe_int (fun _ _ => rfl))) (nomark _)))))), ?_⟩
    refine ⟨_, rfl, a, t, b, rfl, hA, fun c => kE (by omega), fun c1 => ?_⟩
    refine ⟨_, rfl, c, u, d, rfl, hC, fun c => kE (by omega), fun c2 => ?_⟩
    refine ⟨_, rfl, a, _, 0, _, rfl, rfl, hA, atI_nat (j := 0) rfl, _, rfl, c, _, 1, _, rfl, rfl, hC, atI_nat (j := 1) rfl, _, _, rfl, rfl, z1.cm z4, ?_⟩
    refine ⟨_, rfl, c, _, 0, _, rfl, rfl, hC, atI_nat (j := 0) rfl, _, rfl, a, _, 1, _, rfl, rfl, hA, atI_nat (j := 1) rfl, _, _, rfl, rfl, z3.cm z2, _, _, rfl, rfl, ?_⟩
    exact kQ (by omega) (by omega) (by omega) (by omega)

abbrev s_taken : Stmt := topS 9
abbrev N_taken : List Str := ["one", "other"]
theorem sc_taken : FnScope N_taken ["one", "other"] (defScope s_taken) := ⟨rfl, rfl, rfl, by decide +kernel, rfl, by decide +kernel, by decide +kernel⟩
def sp_taken (K : PySem.W.Frag) (e : ErrA) : Sp := fun vs H Q E => ∃ (a c : Addr) (t b u d : Int), vs = [.ref a, .ref c] ∧ SqT K H a [.int t, .int b] ∧ SqT K H c [.int u, .int d] ∧ Sz 4400 t ∧ Sz 4400 b ∧ Sz 4400 u ∧ Sz 4400 d ∧
  ((t < 0 ∨ b < 1 ∨ u < 0 ∨ d < 1) → E (.ref e.NoFraction) none H) ∧ (0 ≤ t → 1 ≤ b → 0 ≤ u → 1 ≤ d → t * d < u * b → E (.ref e.NotBelow) none H) ∧
  (0 ≤ t → 1 ≤ b → 0 ≤ u → 1 ≤ d → u * b ≤ t * d → ∀ H' p, Same H H' → H p = none → H' p = some (.tup [.int (low (t * d - u * b) (b * d)).1, .int (low (t * d - u * b) (b * d)).2]) → Q (.ref p) H')
theorem ok_taken (D : Stands K mg "taken" s_taken) (B : Bi mg) (Er : ErrOk K mg e)
    (h_less : Keeps P w K mg base 2 "less" ["one", "other"] (sp_less K e))
    (h_lowest : Keeps P w K mg base 2 "lowest" ["fraction"] (sp_lowest K e)) : Keeps P w K mg base 3 "taken" ["one", "other"] (sp_taken K e) := by
  obtain ⟨f, fd, F, mF⟩ := D
  obtain ⟨f_less, fd_less, G_less, b_less, m_less, k_less⟩ := h_less
  obtain ⟨f_lowest, fd_lowest, G_lowest, b_lowest, m_lowest, k_lowest⟩ := h_lowest
  have h_NotBelow := Er.NotBelow
  refine ⟨f, fd, ?_, F.binds (ps := ["one", "other"]) (fun _ _ _ _ _ _ us hl => match us, hl with | [_, _], _ => rfl), mF, F.kp⟩
  refine F.okX sc_taken (fun vs H Q E h => ?_) (fun cdv A outer s H vs Q E hr h => ?_)
  · obtain ⟨a, c, t, b, u, d, rfl, hA, hC, z1, z2, z3, z4, kE, kB, kQ⟩ := h
    rfl
  · obtain ⟨a, c, t, b, u, d, rfl, hA, hC, z1, z2, z3, z4, kE, kB, kQ⟩ := h
    refine ⟨_, (pss_cons (ps_if (pt_val (pe_call G_less (hr.mono (by decide)) (by rfl) m_less k_less b_less .nil (passes_call (E := E) (takes_of rfl rfl rfl rfl) (fun _ _ _ _ h => h)) (pa_cons (pv 0) (pa_cons (pv 1) pa_nil)))) (pss_one (ps_raise rfl (takes_of rfl rfl rfl rfl) (pmk_own PySem.F.excBase_ValueError h_NotBelow.x h_NotBelow.g h_NotBelow.k (raises_own h_NotBelow.b h_NotBelow.t) rfl))) pss_nil)
      (pss_one (ps_ret (pe_call G_lowest (hr.mono (by decide)) (by rfl) m_lowest k_lowest b_lowest .nil (passes_call (E := E) (takes_of rfl rfl rfl rfl) (fun _ _ _ _ h => h)) (pa_cons (pe_tup (pa_cons (pe_op op_sub (pe_op op_mulW (pe_ix ix_tup (pv 0) pe_int (fun _ _ => rfl)) (pe_ix ix_tup (pv 1) pe_int (fun _ _ => rfl))) (pe_op op_mulW (pe_ix ix_tup (pv 1) pe_int (fun _ _ => rfl)) (pe_ix ix_tup (pv 0) pe_int (fun _ _ => rfl)))) (pa_cons (pe_op op_mulW (pe_ix ix_tup (pv 0) pe_int (fun _ _ => rfl)) (pe_ix ix_tup (pv 1) pe_int (fun _ _ => rfl))) pa_nil))) pa_nil))))), ?_⟩
    refine ⟨_, rfl, _, rfl, a, c, t, b, u, d, rfl, hA, hC, z1, z2, z3, z4, kE, fun h1 h2 h3 h4 => ⟨_, rfl, ite2 (fun c => ?_) (fun c => ?_)⟩⟩
    · exact kB h1 h2 h3 h4 (of_decide_eq_true c)
    · have c0 : u * b ≤ t * d := by
        have : ¬ t * d < u * b := fun z => c (decide_eq_true z)
        omega
      have bd : 1 ≤ b * d := Int.mul_pos (by omega) (by omega)
      refine ⟨_, rfl, a, _, 0, _, rfl, rfl, hA, atI_nat (j := 0) rfl, _, rfl, _, _, 1, _, rfl, rfl, hC, atI_nat (j := 1) rfl, _, _, rfl, rfl, z1.cm z4, ?_⟩
      refine ⟨_, rfl, _, _, 0, _, rfl, rfl, hC, atI_nat (j := 0) rfl, _, rfl, a, _, 1, _, rfl, rfl, hA, atI_nat (j := 1) rfl, _, _, rfl, rfl, z3.cm z2, _, _, rfl, rfl, ?_⟩
      refine ⟨_, rfl, a, _, 1, _, rfl, rfl, hA, atI_nat (j := 1) rfl, _, rfl, _, _, 1, _, rfl, rfl, hC, atI_nat (j := 1) rfl, _, _, rfl, rfl, z2.cm z4, by show 2 ≤ sizeLine; decide, fun p hp => ?_⟩
      refine ⟨p, _, _, rfl, SqT.of upd_same, (z2.mul z4).mono, fun c => absurd c (by omega), fun _ H' r s hr e => ?_⟩
      exact kQ h1 h2 h3 h4 c0 H' r ((same_new hp).trans s) ((same_new hp).free hr) e

abbrev s_see_below : Stmt := topS 10
abbrev N_see_below : List Str := ["fraction"]
theorem sc_see_below : FnScope N_see_below ["fraction"] (defScope s_see_below) := ⟨rfl, rfl, rfl, by decide +kernel, rfl, by decide +kernel, by decide +kernel⟩
def sp_see_below (K : PySem.W.Frag) (e : ErrA) : Sp := fun vs H Q E => ∃ (a : Addr) (t b : Int), vs = [.ref a] ∧ SqT K H a [.int t, .int b] ∧ ((t < 0 ∨ b < 1) → E (.ref e.NoFraction) none H) ∧
  (0 ≤ t → 1 ≤ b → (t < 1 ∨ b ≤ t) → E (.ref e.NotBelow) none H) ∧ (1 ≤ t → t < b → Q .non H)
theorem ok_see_below (D : Stands K mg "see_below" s_see_below) (B : Bi mg) (Er : ErrOk K mg e)
    (h_see : Keeps P w K mg base 1 "see" ["fraction"] (sp_see K e)) : Keeps P w K mg base 2 "see_below" ["fraction"] (sp_see_below K e) := by
  obtain ⟨f, fd, F, mF⟩ := D
  obtain ⟨f_see, fd_see, G_see, b_see, m_see, k_see⟩ := h_see
  have h_NotBelow := Er.NotBelow
  refine ⟨f, fd, ?_, F.binds (ps := ["fraction"]) (fun _ _ _ _ _ _ us hl => match us, hl with | [_], _ => rfl), mF, F.kp⟩
  refine F.okX sc_see_below (fun vs H Q E h => ?_) (fun cdv A outer s H vs Q E hr h => ?_)
  · obtain ⟨a, t, b, rfl, hS, kE, kB, kQ⟩ := h
    rfl
  · obtain ⟨a, t, b, rfl, hS, kE, kB, kQ⟩ := h
    refine ⟨_, (pss_cons (ps_expr (pe_call G_see (hr.mono (by decide)) (by rfl) m_see k_see b_see .nil (passes_call (E := E) (takes_of rfl rfl rfl rfl) (fun _ _ _ _ h => h)) (pa_cons (pv 0) pa_nil)))
      (pss_one (ps_if (PW.pt (pw_or (pt_cmpR op_lt (pe_ix ix_tup (pv 0) pe_int (fun _ _ => rfl)) pe_int (nomark _)) (pw_or1 (pt_cmpR op_ge (pe_ix ix_tup (pv 0) pe_int (fun _ _ => rfl)) (pe_ix ix_tup (pv 0) pe_int (fun _ _ => rfl)) (nomark _))))) (pss_one (ps_raise rfl (takes_of rfl rfl rfl rfl) (pmk_own PySem.F.excBase_ValueError h_NotBelow.x h_NotBelow.g h_NotBelow.k (raises_own h_NotBelow.b h_NotBelow.t) rfl))) pss_nil))), ?_⟩
    refine ⟨_, rfl, a, t, b, rfl, hS, kE, fun g => ?_⟩
    have h0 : 0 ≤ t := by omega
    have hb : 1 ≤ b := by omega
    refine ⟨_, rfl, a, _, 0, _, rfl, rfl, hS, atI_nat (j := 0) rfl, _, _, rfl, rfl, _, rfl, ite2 (fun c => ?_) (fun c => ?_)⟩
    · refine iteT ?_
      exact kB h0 hb (.inl (of_decide_eq_true c))
    · have c0 : ¬ t < 1 := fun z => c (decide_eq_true z)
      refine ⟨_, rfl, a, _, 0, _, rfl, rfl, hS, atI_nat (j := 0) rfl, _, rfl, a, _, 1, _, rfl, rfl, hS, atI_nat (j := 1) rfl, _, _, rfl, rfl, _, rfl, ite2 (fun c => ?_) (fun c => ?_)⟩
      · exact kB h0 hb (.inr (of_decide_eq_true c))
      · have c1 : ¬ b ≤ t := fun z => c (decide_eq_true z)
        exact kQ (by omega) (by omega)

abbrev s_up : Stmt := topS 12
abbrev N_up : List Str := ["top", "bottom"]
theorem sc_up : FnScope N_up ["top", "bottom"] (defScope s_up) := ⟨rfl, rfl, rfl, by decide +kernel, rfl, by decide +kernel, by decide +kernel⟩
def sp_up (K : PySem.W.Frag) (_ : ErrA) : Sp := fun vs H Q _ => ∃ t b : Int, vs = [.int t, .int b] ∧ 1 ≤ b ∧ Sz 9000 b ∧ Q (.int (upF t b)) H
theorem ok_up (D : Stands K mg "up" s_up) (B : Bi mg) (Er : ErrOk K mg e) : Keeps P w K mg base 1 "up" ["top", "bottom"] (sp_up K e) := by
  obtain ⟨f, fd, F, mF⟩ := D
  refine ⟨f, fd, ?_, F.binds (ps := ["top", "bottom"]) (fun _ _ _ _ _ _ us hl => match us, hl with | [_, _], _ => rfl), mF, F.kp⟩
  refine toX (F.ok sc_up (fun vs H Q E h => ?_) (fun cdv A outer s H vs Q E hr h => ?_))
  · obtain ⟨t, b, rfl, hb, hz, q⟩ := h
    rfl
  · obtain ⟨t, b, rfl, hb, hz, q⟩ := h
    refine ⟨_, (pss_one (ps_ret (pe_op op_fdivP (pe_op op_sub (pe_op op_add (pv 0) (pv 1)) pe_int) (pv 1)))), ?_⟩
    exact ⟨_, rfl, _, rfl, _, _, rfl, rfl, _, _, rfl, rfl, _, rfl, _, _, rfl, rfl, hz.cd (by omega), q⟩

abbrev s_ways_of : Stmt := topS 14
abbrev N_ways_of : List Str := ["left", "many", "least", "greatest", "found", "share", "tail"]
theorem sc_ways_of : FnScope N_ways_of ["left", "many", "least", "greatest"] (defScope s_ways_of) := ⟨rfl, rfl, rfl, by decide +kernel, rfl, by decide +kernel, by decide +kernel⟩
/-- what is asked, by many (one more than it is) -/
def sp_ways (K : PySem.W.Frag) (e : ErrA) : Nat → Sp
  | 0 => fun _ _ _ _ => False
  | m + 1 => fun vs H Q _ => ∃ (a : Addr) (T B l g : Int), vs = [.ref a, .int (m : Int), .int l, .int g] ∧ SqT K H a [.int T, .int B] ∧ m ≤ 4 ∧ 0 ≤ T ∧ 1 ≤ B ∧ T ≤ B ∧ Sz (38 - 6 * m) B ∧ 1 ≤ l ∧ l ≤ 100 ∧ 0 ≤ g ∧ g ≤ 60 ∧
    ∀ H' p ps, Same H H' → H p = none → H' p = some (.lst (ps.map V.ref)) → Rws H H' ps (Wy m T B l g) → p ∉ ps → Q (.ref p) H'
def sp_ways_of (K : PySem.W.Frag) (e : ErrA) : Sp := fun vs H Q E => ∃ m, m ≤ 4 ∧ sp_ways K e (m + 1) vs H Q E
theorem ok_ways_of (D : Stands K mg "ways_of" s_ways_of) (B : Bi mg) (Er : ErrOk K mg e)
    (h_up : Keeps P w K mg base 1 "up" ["top", "bottom"] (sp_up K e))
    (h_taken : Keeps P w K mg base 3 "taken" ["one", "other"] (sp_taken K e)) : Keeps P w K mg base 9 "ways_of" ["left", "many", "least", "greatest"] (sp_ways_of K e) := by
  obtain ⟨f, fd, F, mF⟩ := D
  obtain ⟨f_up, fd_up, G_up, b_up, m_up, k_up⟩ := h_up
  obtain ⟨f_taken, fd_taken, G_taken, b_taken, m_taken, k_taken⟩ := h_taken
  have fb : Binds K fd ["left", "many", "least", "greatest"] [] := F.binds (ps := ["left", "many", "least", "greatest"]) (fun _ _ _ _ _ _ us hl => match us, hl with | [_, _, _, _], _ => rfl)
  have all : ∀ m, FnOk P w K mg base (L2.CX P w) (m + 4) f fd ["left", "many", "least", "greatest"] (sp_ways K e m) := by
    intro m
    induction m with
    | zero => exact ⟨fun _ _ _ _ h => h.elim, fun _ _ _ _ _ _ _ _ _ _ _ _ _ h => h.elim⟩
    | succ m G_ways_of =>
      have m_ways_of := mF
      have k_ways_of := F.kp
      have b_ways_of := fb
      refine F.okX sc_ways_of (fun vs H Q E h => ?_) (fun cdv A outer s H vs Q E hr h => ?_)
      · obtain ⟨a, T, Bb, l, g, rfl, _⟩ := h
        rfl
      · obtain ⟨a, T, Bb, l, g, rfl, hS, m4, hT, hB, hTB, zB, hl, hl2, hg, hg2, q⟩ := h
        refine ⟨_, (pss_cons (ps_if (pt_cmpR op_eq (pv 1) pe_int (nomark _)) (pss_cons (ps_if (pt_cmpR op_eq (pe_ix ix_tup (pv 0) pe_int (fun _ _ => rfl)) pe_int (nomark _)) (pss_one (ps_ret (pe_lst (pa_cons (pe_lst pa_nil) pa_nil)))) pss_nil)
      (pss_one (ps_ret (pe_lst pa_nil)))) pss_nil)
      (pss_cons (ps_if (pt_cmpR op_eq (pe_ix ix_tup (pv 0) pe_int (fun _ _ => rfl)) pe_int (nomark _)) (pss_one (ps_ret (pe_lst pa_nil))) pss_nil)
      (pss_cons (ps_set (i := 4) sc_ways_of.nd rfl (Or.inl rfl) (pe_lst pa_nil))
      (pss_cons (ps_for (passes_of rfl) rfl (pi_range2 (by rfl) B.range (pa_cons (pe_callB (call_max2 rfl) (by rfl) B.max (by decide +kernel) (pa_cons (pv 2) (pa_cons (pe_call G_up (hr.mono (by omega)) (by rfl) m_up k_up b_up .nil passL (pa_cons (pe_ix ix_tup (pv 0) pe_int (fun _ _ => rfl)) (pa_cons (pe_ix ix_tup (pv 0) pe_int (fun _ _ => rfl)) pa_nil))) pa_nil))) (pa_cons (pe_op op_add (pe_callB (call_min2 rfl) (by rfl) B.min (by decide +kernel) (pa_cons (pv 3) (pa_cons (pe_op op_fdivP (pe_op op_mulW (pv 1) (pe_ix ix_tup (pv 0) pe_int (fun _ _ => rfl))) (pe_ix ix_tup (pv 0) pe_int (fun _ _ => rfl))) pa_nil))) pe_int) pa_nil))) (pg_name (i := 5) sc_ways_of.nd rfl (Or.inl rfl)) (pss_one (ps_for (passes_of rfl) rfl (pi_list (pe_call G_ways_of (hr.mono (by omega)) (by rfl) m_ways_of k_ways_of b_ways_of .nil (passes_call (E := E) (takes_of rfl rfl rfl rfl) (fun _ _ _ _ h => h)) (pa_cons (pe_call G_taken (hr.mono (by omega)) (by rfl) m_taken k_taken b_taken .nil (passes_call (E := E) (takes_of rfl rfl rfl rfl) (fun _ _ _ _ h => h)) (pa_cons (pv 0) (pa_cons (pe_tup (pa_cons pe_int (pa_cons (pv 5) pa_nil))) pa_nil))) (pa_cons (pe_op op_sub (pv 1) pe_int) (pa_cons (pe_op op_add (pv 5) pe_int) (pa_cons (pv 3) pa_nil)))))) (pg_name (i := 6) sc_ways_of.nd rfl (Or.inl rfl)) (pss_one (ps_expr (pe_bm PySem.F.plainAttrs_list PySem.F.slot_list_append PySem.F.type_list_append mt_append (pv 4) (pa_cons (pe_op op_cat (pe_lst (pa_cons (pv 5) pa_nil)) (pv 6)) pa_nil)))))))
      (pss_one (ps_ret (pv 4))))))), ?_⟩
        rcases m with _ | k
        · refine ⟨_, rfl, rfl, _, rfl, ite2 (fun _ => ?_) (fun z => absurd (decide_eq_true rfl) z)⟩
          refine ⟨_, rfl, a, _, 0, _, rfl, rfl, hS, atI_nat (j := 0) rfl, rfl, _, rfl, ite2 (fun c => ?_) (fun c => ?_)⟩
          · have c : T = 0 := V.int.inj (of_decide_eq_true c)
            refine ⟨Nat.zero_le _, fun r nr => ⟨by show 1 ≤ sizeLine; decide, fun p np => ?_⟩⟩
            refine q _ p [r] ((same_new nr).trans (same_new np)) ((same_new nr).free np) upd_same ?_ (fun z => ?_)
            · show Rws _ _ _ (if T = 0 then [[]] else [])
              rw [if_pos c]
              exact Rws.one nr (same_new np _ _ upd_same)
            · rw [List.mem_singleton.mp z, upd_same] at np
              cases np
          · have c : ¬ T = 0 := fun z => c (decide_eq_true (congrArg V.int z))
            refine ⟨Nat.zero_le _, fun p np => q _ p [] (same_new np) np upd_same ?_ (by simp)⟩
            show Rws _ _ _ (if T = 0 then [[]] else [])
            rw [if_neg c]
            exact Rws.nil
        · refine ⟨_, rfl, rfl, _, rfl, ite2 (fun z => absurd (V.int.inj (of_decide_eq_true z)) (by omega)) (fun _ => ?_)⟩
          refine ⟨_, rfl, a, _, 0, _, rfl, rfl, hS, atI_nat (j := 0) rfl, rfl, _, rfl, ite2 (fun c => ?_) (fun c => ?_)⟩
          · have c : T = 0 := V.int.inj (of_decide_eq_true c)
            refine ⟨Nat.zero_le _, fun p np => q _ p [] (same_new np) np upd_same ?_ (by simp)⟩
            have z : Wy (k + 1) T Bb l g = [] := if_pos c
            rw [z]
            exact Rws.nil
          · have c : ¬ T = 0 := fun z => c (decide_eq_true (congrArg V.int z))
            have hT1 : 1 ≤ T := by omega
            have zT : Sz 40 T := (zB.mono (by omega) : Sz 40 Bb).le hT hTB
            have zB40 : Sz 40 Bb := zB.mono (by omega)
            have u1 := upF_pos (B := Bb) hT1 hB
            have u2 := upF_le (B := Bb) hT1 hB
            have u3 := upF_hi (B := Bb) hT1
            have b40 : Bb < 1099511627776 := by
              have : Bb.natAbs < 2 ^ 40 := zB40
              omega
            have kz : Sz 4 ((k + 1 : Nat) : Int) := by
              show ((k + 1 : Nat) : Int).natAbs < 16
              omega
            refine ⟨Nat.zero_le _, fun F nF => ?_⟩
            have sF := same_new (o := .lst []) nF
            have eF : (upd H F (.lst [])) F = some (.lst []) := upd_same
            dsimp only
            generalize (upd H F (.lst [])) = H1 at sF eF
            have hS1 := same_tup sF hS
            refine ⟨_, rfl, _, rfl, a, _, 1, _, rfl, rfl, hS1, atI_nat (j := 1) rfl, _, rfl, a, _, 0, _, rfl, rfl, hS1, atI_nat (j := 0) rfl, Bb, T, rfl, hT1, zT.mono, _, _, rfl, ?_⟩
            refine ⟨_, rfl, _, rfl, _, rfl, a, _, 1, _, rfl, rfl, hS1, atI_nat (j := 1) rfl, _, _, rfl, rfl, kz.cm zB40, _, rfl, a, _, 0, _, rfl, rfl, hS1, atI_nat (j := 0) rfl, _, _, rfl, rfl, zT.cd (by omega), _, _, rfl, _, _, rfl, rfl, ?_⟩
            have e1 : (if upF Bb T > l then upF Bb T else l) = max l (upF Bb T) := by split <;> omega
            have e2 : (if ((k + 1 : Nat) : Int) * Bb / T < g then ((k + 1 : Nat) : Int) * Bb / T else g) = min g (((k + 1 : Nat) : Int) * Bb / T) := by split <;> omega
            have d0 : 0 ≤ ((k + 1 : Nat) : Int) * Bb / T := Int.ediv_nonneg (Int.mul_nonneg (by omega) (by omega)) (by omega)
            have ew : Wy (k + 1) T Bb l g = (span (max l (upF Bb T)) (min g (((k + 1 : Nat) : Int) * Bb / T))).flatMap fun s => (Wy k (low (T * s - 1 * Bb) (Bb * s)).1 (low (T * s - 1 * Bb) (Bb * s)).2 (s + 1) g).map (s :: ·) := if_neg c
            have wl := wy_len (k := k + 1) hl hT hB hg
            have wl2 := pow60 hg hg2 m4
            rw [ew] at q wl
            obtain ⟨lo, elo⟩ : ∃ lo, max l (upF Bb T) = lo := ⟨_, rfl⟩
            obtain ⟨hi, ehi⟩ : ∃ hi, min g (((k + 1 : Nat) : Int) * Bb / T) = hi := ⟨_, rfl⟩
            rw [elo, ehi] at q wl
            rw [elo] at e1
            rw [ehi] at e2
            have lo1 : 1 ≤ lo := by omega
            have lo2 : upF Bb T ≤ lo := by omega
            have hi1 : hi ≤ 60 := by omega
            refine ⟨_, _, rfl, ⟨by rw [e1]; omega, by rw [e1]; omega, by rw [e2]; omega, by rw [e2]; omega⟩, ?_⟩
            rw [e1, e2]
            refine for_range (lo := lo) (n := (hi + 1 - lo).toNat) (fun i σ H' => SameB F H1 H' ∧ ∃ (ps : List Addr) (v5 v6 : Option V), σ = [some (.ref a), some (.int ((k + 1 : Nat) : Int)), some (.int l), some (.int g), some (.ref F), v5, v6] ∧ H' F = some (.lst (ps.map V.ref)) ∧
              Rws H1 H' ps (((span lo hi).take i).flatMap fun s => (Wy k (low (T * s - 1 * Bb) (Bb * s)).1 (low (T * s - 1 * Bb) (Bb * s)).2 (s + 1) g).map (s :: ·))) ⟨SameB.refl _, [], none, none, rfl, eF, Rws.nil⟩ ?_ ?_
            · rintro i σ H2 hi2 ⟨s2, ps, v5, v6, rfl, eF2, r2⟩
              have sg := span_get (lo := lo) (hi := hi) hi2
              obtain ⟨s, es⟩ : ∃ s : Int, lo + (i : Int) = s := ⟨_, rfl⟩
              rw [es] at sg ⊢
              have s1 : lo ≤ s ∧ s ≤ hi := mem_span.mp (List.mem_of_getElem? sg)
              have tl1 := take_flat_len (fun s => (Wy k (low (T * s - 1 * Bb) (Bb * s)).1 (low (T * s - 1 * Bb) (Bb * s)).2 (s + 1) g).map (s :: ·)) (span lo hi) (i + 1)
              rw [take_snoc sg, flatMap_snoc, List.length_append, List.length_map] at tl1
              have sB : 1 ≤ Bb * s := Int.mul_pos (by omega) (by omega)
              have up : upF Bb T * T ≤ s * T := Int.mul_le_mul_of_nonneg_right (by omega) (by omega)
              have up2 : s * T = T * s := Int.mul_comm s T
              have z6 : Sz 6 s := by
                show s.natAbs < 64
                omega
              have hS2 := same_tup (SameB.same sF nF s2) hS
              refine ⟨_, rfl, _, rfl, by show 2 ≤ sizeLine; decide, fun o no => ?_⟩
              have s3 := same_new (o := .tup [.int 1, .int s]) no
              refine ⟨a, o, T, Bb, 1, s, rfl, same_tup s3 hS2, SqT.of upd_same, zT.mono, zB40.mono, Sz.one, z6.mono, fun z => absurd z (by omega), fun _ _ _ _ z => absurd z (by omega), fun _ _ _ _ ge H3 r s4 nr er => ?_⟩
              have nn : 0 ≤ T * s - 1 * Bb := by omega
              have lB := low_bpos (t := T * s - 1 * Bb) sB
              have lBle := low_ble (t := T * s - 1 * Bb) sB
              have lT := low_tnn (t := T * s - 1 * Bb) sB nn
              have lc := low_cross (T * s - 1 * Bb) (Bb * s)
              have tb : (low (T * s - 1 * Bb) (Bb * s)).1 ≤ (low (T * s - 1 * Bb) (Bb * s)).2 := by
                refine Int.le_of_mul_le_mul_right (a := Bb * s) ?_ (by omega)
                rw [← lc, Int.mul_comm _ (Bb * s)]
                refine Int.mul_le_mul_of_nonneg_right ?_ (by omega)
                have : T * s ≤ Bb * s := Int.mul_le_mul_of_nonneg_right hTB (by omega)
                omega
              have zB3 : Sz (38 - 6 * k) (low (T * s - 1 * Bb) (Bb * s)).2 := (((zB.mul z6).mono (by omega)) : Sz (38 - 6 * k) (Bb * s)).le (by omega) lBle
              generalize eT' : (low (T * s - 1 * Bb) (Bb * s)).1 = T' at *
              generalize eB' : (low (T * s - 1 * Bb) (Bb * s)).2 = B' at *
              have s34 := s3.trans s4
              have wk := wy_len (k := k) (l := s + 1) (by omega) lT lB hg
              refine ⟨_, rfl, _, _, rfl, rfl, _, rfl, _, _, rfl, rfl, _, rfl, r, T', B', s + 1, g, ways_arg (by omega), SqT.of er, by omega, lT, lB, tb, zB3, by omega, by omega, hg, hg2, fun H4 Tl qs s5 nT eT rT nTq => ?_⟩
              have eF3 := s34 _ _ eF2
              have eF4 := s5 _ _ eF3
              have s14 : SameB F H1 H4 := s2.trans (SameB.of (s34.trans s5))
              have rT1 : Rws H1 H4 qs (Wy k T' B' (s + 1) g) := rT.baseB (s2.trans (SameB.of s34)) eF3
              have TF : Tl ≠ F := fun z => by
                rw [z, eF3] at nT
                cases nT
              have r4 := r2.same (s34.trans s5)
              have Fq : F ∉ qs := rT1.not eF
              refine ⟨Tl, rfl, ⟨_, SqL.of eT⟩, for_list (K := K) (a := Tl) (xs := qs.map V.ref) (fun j σ H' => SameB F H4 H' ∧ ∃ (ds : List Addr) (v6 : Option V), σ = [some (.ref a), some (.int ((k + 1 : Nat) : Int)), some (.int l), some (.int g), some (.ref F), some (.int s), v6] ∧ H' F = some (.lst ((ps ++ ds).map V.ref)) ∧
                Rws H1 H' ds (((Wy k T' B' (s + 1) g).take j).map (s :: ·))) ⟨SameB.refl _, [], v6, rfl, by rw [List.append_nil]; exact eF4, Rws.nil⟩ (fun j σ H' _ h => SqL.of (h.1 _ _ TF eT)) ?_ ?_⟩
              · rintro j y σ H5 hy ⟨s6, ds, v6, rfl, eF5, r5⟩
                obtain ⟨p, ep, rfl⟩ := of_get_map hy
                obtain ⟨t, et, _, pt⟩ := rT1.get ep
                have pF : p ≠ F := fun z => Fq (z ▸ List.mem_of_getElem? ep)
                have pt5 := s6 _ _ pF pt
                have tl : t.length = k := (rw_mem (wy_mem (by omega) lT lB (List.mem_of_getElem? et)).1).1
                have dl : ds.length = ((Wy k T' B' (s + 1) g).take j).length := by rw [r5.len, List.length_map]
                have dl2 : ((Wy k T' B' (s + 1) g).take j).length ≤ (Wy k T' B' (s + 1) g).length := by
                  rw [List.length_take]
                  exact Nat.min_le_right _ _
                refine ⟨_, rfl, .inl ⟨rfl, _, SqL.of eF5⟩, _, rfl, by show 1 ≤ sizeLine; decide, fun c nc => ⟨_, rfl, c, p, _, _, rfl, rfl, upd_same, same_new nc _ _ pt5, by rw [List.length_map, tl]; exact szl (by show 1 + k ≤ _; omega), fun d nd => ?_⟩⟩
                have s7 := (same_new (o := .lst [.int s]) nc).trans (same_new (o := .lst ([V.int s] ++ t.map V.int)) nd)
                have ed : (upd (upd H5 c (.lst [.int s])) d (.lst ([V.int s] ++ t.map V.int))) d = some (.lst ((s :: t).map V.int)) := upd_same
                have nd5 : H5 d = none := (same_new nc).free nd
                generalize (upd (upd H5 c (.lst [.int s])) d (.lst ([V.int s] ++ t.map V.int))) = H6 at s7 ed
                have eF6 := s7 _ _ eF5
                refine ⟨F, _, _, rfl, rfl, eF6, ?_, ?_⟩
                · rw [List.length_map, List.length_append, dl, r2.len]
                  exact szl_lt (by omega)
                · have dF : d ≠ F := fun z => by
                    rw [z, eF5] at nd5
                    cases nd5
                  have b7 : SameB F H5 (upd H6 F (.lst ((ps ++ ds).map V.ref ++ [.ref d]))) := (SameB.of s7).trans SameB.put
                  refine ⟨s6.trans b7, ds ++ [d], _, rfl, ?_, ?_⟩
                  · rw [upd_same, ← List.append_assoc ps, List.map_append (l₁ := ps ++ ds)] <;> rfl
                  · rw [take_snoc et, List.map_append (f := fun x => s :: x)]
                    refine (r5.sameB b7 (r5.not eF)).append (Rws.one ((s14.trans s6).free dF nd5) ?_)
                    rw [upd_ne dF]
                    exact ed
              · rintro σ H5 ⟨s6, ds, v6, rfl, eF5, r5⟩
                rw [List.length_map, rT1.len, List.take_length] at r5
                refine ⟨s14.trans s6, ps ++ ds, _, _, rfl, eF5, ?_⟩
                rw [take_snoc sg, flatMap_snoc, eT', eB']
                exact (r4.sameB s6 (r4.not eF)).append r5
            · rintro σ H2 ⟨s2, ps, v5, v6, rfl, eF2, r2⟩
              rw [← span_len, List.take_length] at r2
              exact ⟨_, rfl, q H2 F ps (SameB.same sF nF s2) nF eF2 (r2.base sF) (r2.not eF)⟩
  refine ⟨f, fd, ⟨fun vs H Q E h => ?_, fun A outer s H args us vs Q E hr e0 hb r h => ?_⟩, fb, mF, F.kp⟩
  · obtain ⟨m, _, h⟩ := h
    exact (all (m + 1)).len vs H Q E h
  · obtain ⟨m, hm, h⟩ := h
    exact ((all (m + 1)).mono (by omega : m + 1 + 4 ≤ 9)).run A outer s H args us vs Q E hr e0 hb r h

abbrev s_all_ways : Stmt := topS 15
abbrev N_all_ways : List Str := ["fraction", "most", "greatest", "found", "many"]
theorem sc_all_ways : FnScope N_all_ways ["fraction", "most", "greatest"] (defScope s_all_ways) := ⟨rfl, rfl, rfl, by decide +kernel, rfl, by decide +kernel, by decide +kernel⟩
theorem allF_len {T B g : Int} (hT : 0 ≤ T) (hB : 1 ≤ B) (hg : 0 ≤ g) (hg2 : g ≤ 60) {m : Nat} (hm : m ≤ 4) : (allF T B g m).length ≤ 13179660 := by
  have p : ∀ k, g.toNat ^ k ≤ 60 ^ k := fun k => Nat.pow_le_pow_left (by omega) k
  have w : ∀ k, (Wy k T B 1 g).length ≤ 60 ^ k := fun k => Nat.le_trans (wy_len (Int.le_refl 1) hT hB hg) (p k)
  have a0 : (allF T B g 0).length ≤ 0 := Nat.le_refl 0
  have a1 : (allF T B g 1).length ≤ 60 := by
    rw [allF_snoc, List.length_append]
    show (allF T B g 0).length + (Wy 1 T B 1 g).length ≤ 60
    have := w 1
    omega
  have a2 : (allF T B g 2).length ≤ 3660 := by
    rw [allF_snoc, List.length_append]
    show (allF T B g 1).length + (Wy 2 T B 1 g).length ≤ 3660
    have := w 2
    omega
  have a3 : (allF T B g 3).length ≤ 219660 := by
    rw [allF_snoc, List.length_append]
    show (allF T B g 2).length + (Wy 3 T B 1 g).length ≤ 219660
    have := w 3
    omega
  have a4 : (allF T B g 4).length ≤ 13179660 := by
    rw [allF_snoc, List.length_append]
    show (allF T B g 3).length + (Wy 4 T B 1 g).length ≤ 13179660
    have := w 4
    omega
  obtain rfl | rfl | rfl | rfl | rfl : m = 0 ∨ m = 1 ∨ m = 2 ∨ m = 3 ∨ m = 4 := by omega
  · exact Nat.le_trans a0 (by decide)
  · exact Nat.le_trans a1 (by decide)
  · exact Nat.le_trans a2 (by decide)
  · exact Nat.le_trans a3 (by decide)
  · exact a4
def sp_all_ways (K : PySem.W.Frag) (e : ErrA) : Sp := fun vs H Q E => ∃ (a : Addr) (t b : Int) (m : Nat) (g : Int), vs = [.ref a, .int (m : Int), .int g] ∧ SqT K H a [.int t, .int b] ∧ b ≤ 10000 ∧ m ≤ 4 ∧ 0 ≤ g ∧ g ≤ 60 ∧ ((t < 0 ∨ b < 1) → E (.ref e.NoFraction) none H) ∧
  (0 ≤ t → 1 ≤ b → (t < 1 ∨ b ≤ t) → E (.ref e.NotBelow) none H) ∧
  (1 ≤ t → t < b → ∀ H' p ps, Same H H' → H p = none → H' p = some (.lst (ps.map V.ref)) → Rws H H' ps (allF (low t b).1 (low t b).2 g m) → p ∉ ps → Q (.ref p) H')
theorem ok_all_ways (D : Stands K mg "all_ways" s_all_ways) (B : Bi mg) (Er : ErrOk K mg e)
    (h_see_below : Keeps P w K mg base 2 "see_below" ["fraction"] (sp_see_below K e))
    (h_ways_of : Keeps P w K mg base 9 "ways_of" ["left", "many", "least", "greatest"] (sp_ways_of K e))
    (h_lowest : Keeps P w K mg base 2 "lowest" ["fraction"] (sp_lowest K e)) : Keeps P w K mg base 10 "all_ways" ["fraction", "most", "greatest"] (sp_all_ways K e) := by
  obtain ⟨f, fd, F, mF⟩ := D
  obtain ⟨f_see_below, fd_see_below, G_see_below, b_see_below, m_see_below, k_see_below⟩ := h_see_below
  obtain ⟨f_ways_of, fd_ways_of, G_ways_of, b_ways_of, m_ways_of, k_ways_of⟩ := h_ways_of
  obtain ⟨f_lowest, fd_lowest, G_lowest, b_lowest, m_lowest, k_lowest⟩ := h_lowest
  refine ⟨f, fd, ?_, F.binds (ps := ["fraction", "most", "greatest"]) (fun _ _ _ _ _ _ us hl => match us, hl with | [_, _, _], _ => rfl), mF, F.kp⟩
  refine F.okX sc_all_ways (fun vs H Q E h => ?_) (fun cdv A outer s H vs Q E hr h => ?_)
  · obtain ⟨a, t, b, m, g, rfl, hS, hb0, m4, hg, hg2, kE, kB, q⟩ := h
    rfl
  · obtain ⟨a, t, b, m, g, rfl, hS, hb0, m4, hg, hg2, kE, kB, q⟩ := h
    refine ⟨_, (pss_cons (ps_expr (pe_call G_see_below (hr.mono (by decide)) (by rfl) m_see_below k_see_below b_see_below .nil (passes_call (E := E) (takes_of rfl rfl rfl rfl) (fun _ _ _ _ h => h)) (pa_cons (pv 0) pa_nil)))
      (pss_cons (ps_set (i := 3) sc_all_ways.nd rfl (Or.inl rfl) (pe_lst pa_nil))
      (pss_cons (ps_for (passes_of rfl) rfl (pi_range2 (by rfl) B.range (pa_cons pe_int (pa_cons (pe_op op_add (pv 1) pe_int) pa_nil))) (pg_name (i := 4) sc_all_ways.nd rfl (Or.inl rfl)) (pss_one (ps_expr (pe_bm PySem.F.plainAttrs_list PySem.F.slot_list_extend PySem.F.type_list_extend mt_extend (pv 3) (pa_cons (pe_call G_ways_of (hr.mono (by decide)) (by rfl) m_ways_of k_ways_of b_ways_of .nil (passes_call (E := E) (takes_of rfl rfl rfl rfl) (fun _ _ _ _ h => h)) (pa_cons (pe_call G_lowest (hr.mono (by decide)) (by rfl) m_lowest k_lowest b_lowest .nil (passes_call (E := E) (takes_of rfl rfl rfl rfl) (fun _ _ _ _ h => h)) (pa_cons (pv 0) pa_nil)) (pa_cons (pv 4) (pa_cons pe_int (pa_cons (pv 2) pa_nil))))) pa_nil)))))
      (pss_one (ps_ret (pv 3)))))), ?_⟩
    refine ⟨_, rfl, a, t, b, rfl, hS, kE, kB, fun g1 g2 => ?_⟩
    have q := q g1 g2
    have hz : Sz 14 b := by
      show b.natAbs < 16384
      omega
    have l1 := low_bpos (t := t) (by omega : 1 ≤ b)
    have l2 := low_tnn (t := t) (by omega : 1 ≤ b) (by omega)
    have l3 := low_ble (t := t) (by omega : 1 ≤ b)
    have l4 : (low t b).1 ≤ (low t b).2 := by
      refine Int.le_of_mul_le_mul_right (a := b) ?_ (by omega)
      rw [← low_cross, Int.mul_comm _ b]
      exact Int.mul_le_mul_of_nonneg_right (by omega) (by omega)
    have zB : Sz 14 (low t b).2 := hz.le (by omega) l3
    refine ⟨Nat.zero_le _, fun F nF => ?_⟩
    have sF := same_new (o := .lst []) nF
    have eF : (upd H F (.lst [])) F = some (.lst []) := upd_same
    dsimp only
    generalize (upd H F (.lst [])) = H1 at sF eF
    refine ⟨_, rfl, _, _, rfl, rfl, _, _, rfl, ⟨by omega, by omega, by omega, by omega⟩, ?_⟩
    have en : ((m : Int) + 1 - 1).toNat = m := by omega
    rw [en]
    refine for_range (lo := 1) (n := m) (fun i σ H' => SameB F H1 H' ∧ ∃ (ps : List Addr) (v4 : Option V), σ = [some (.ref a), some (.int (m : Int)), some (.int g), some (.ref F), v4] ∧ H' F = some (.lst (ps.map V.ref)) ∧ Rws H1 H' ps (allF (low t b).1 (low t b).2 g i)) ⟨SameB.refl _, [], none, rfl, eF, Rws.nil⟩ ?_ ?_
    · rintro i σ H2 hi ⟨s2, ps, v4, rfl, eF2, r2⟩
      have hS2 := same_tup (SameB.same sF nF s2) hS
      refine ⟨_, rfl, .inl ⟨rfl, _, SqL.of eF2⟩, _, rfl, a, t, b, rfl, hS2, hz.mono, fun z => absurd z (by omega), fun _ H3 r s3 nr er => ?_⟩
      refine ⟨_, rfl, _, rfl, i + 1, by omega, r, (low t b).1, (low t b).2, 1, g, ways_arg (by omega), SqT.of er, by omega, l2, l1, l4, zB.mono (by omega), by decide, by decide, hg, hg2, fun H4 Tl qs s4 nT eT rT nTq => ?_⟩
      have eF3 := s3 _ _ eF2
      have eF4 := s4 _ _ eF3
      have rT1 := rT.baseB (s2.trans (SameB.of s3)) eF3
      have r4 := r2.same (s3.trans s4)
      have al := allF_len (T := (low t b).1) (B := (low t b).2) (g := g) l2 l1 hg hg2 (m := i + 1) (by omega)
      rw [allF_snoc, List.length_append] at al
      refine ⟨F, Tl, _, _, rfl, rfl, eF4, eT, ?_, ?_⟩
      · rw [List.length_map, List.length_map, r2.len, rT.len]
        exact szl (by omega)
      · have sb : SameB F H4 (upd H4 F (.lst (ps.map V.ref ++ qs.map V.ref))) := SameB.put
        refine ⟨(s2.trans (SameB.of (s3.trans s4))).trans sb, ps ++ qs, _, rfl, ?_, ?_⟩
        · rw [upd_same, List.map_append]
        · rw [allF_snoc]
          exact (r4.append rT1).sameB sb ((r4.append rT1).not eF)
    · rintro σ H2 ⟨s2, ps, v4, rfl, eF2, r2⟩
      exact ⟨_, rfl, q H2 F ps (SameB.same sF nF s2) nF eF2 (r2.base sF) (r2.not eF)⟩

abbrev s_law_cell_at : Stmt := topS 17
abbrev N_law_cell_at : List Str := ["script", "k"]
theorem sc_law_cell_at : FnScope N_law_cell_at ["script", "k"] (defScope s_law_cell_at) := ⟨rfl, rfl, rfl, by decide +kernel, rfl, by decide +kernel, by decide +kernel⟩
/-- script[k], nought beyond the end -/
def cell (ns : List Int) (k : Nat) : Int := ns.getD k 0
theorem cell_arg {a : Addr} {x : Int} {k : Nat} (h : x = k) : [V.ref a, V.int x] = [V.ref a, V.int (k : Int)] := by rw [h]
def sp_law_cell_at (K : PySem.W.Frag) (_ : ErrA) : Sp := fun vs H Q _ => ∃ (a : Addr) (ns : List Int) (k : Nat), vs = [.ref a, .int k] ∧ SqL K H a (ns.map V.int) ∧ ns.length ≤ 63 ∧ Q (.int (cell ns k)) H
theorem ok_law_cell_at (D : Stands K mg "_law_cell_at" s_law_cell_at) (B : Bi mg) (Er : ErrOk K mg e) : Keeps P w K mg base 1 "_law_cell_at" ["script", "k"] (sp_law_cell_at K e) := by
  obtain ⟨f, fd, F, mF⟩ := D
  refine ⟨f, fd, ?_, F.binds (ps := ["script", "k"]) (fun _ _ _ _ _ _ us hl => match us, hl with | [_, _], _ => rfl), mF, F.kp⟩
  refine toX (F.ok sc_law_cell_at (fun vs H Q E h => ?_) (fun cdv A outer s H vs Q E hr h => ?_))
  · obtain ⟨a, ns, k, rfl, hS, hk, q⟩ := h
    rfl
  · obtain ⟨a, ns, k, rfl, hS, hk, q⟩ := h
    refine ⟨_, (pss_cons (ps_if (pt_cmpR op_lt (pv 1) (pe_callB call_len_seq (by rfl) B.len (by decide +kernel) (pa_cons (pv 0) pa_nil)) (nomark _)) (pss_one (ps_ret (pe_ix ix_list (pv 0) (pv 1) (fun _ _ => rfl)))) pss_nil)
      (pss_one (ps_ret pe_int))), ?_⟩
    refine ⟨_, rfl, _, rfl, a, _, rfl, .inl hS, _, _, rfl, rfl, _, rfl, ite2 (fun c => ?_) (fun c => ?_)⟩
    · have c := of_decide_eq_true c
      rw [List.length_map] at c
      have hl : k < ns.length := by omega
      have g : ns[k]? = some (cell ns k) := by
        unfold cell
        rw [List.getD_eq_getElem?_getD, List.getElem?_eq_getElem hl] <;> rfl
      exact ⟨_, rfl, _, rfl, a, _, _, _, rfl, rfl, hS, atI_nat (get_map g), q⟩
    · have z : cell ns k = 0 := by
        unfold cell
        rw [List.getD_eq_getElem?_getD, List.getElem?_eq_none] <;> first | rfl | skip
        have c : ¬ ((k : Int) < ((ns.map V.int).length : Int)) := fun z => c (decide_eq_true z)
        rw [List.length_map] at c
        omega
      rw [z] at q
      exact q

abbrev s_law_whole : Stmt := topS 18
abbrev N_law_whole : List Str := ["found"]
theorem sc_law_whole : FnScope N_law_whole ["found"] (defScope s_law_whole) := ⟨rfl, rfl, rfl, by decide +kernel, rfl, by decide +kernel, by decide +kernel⟩
def sp_law_whole (K : PySem.W.Frag) (_ : ErrA) : Sp := fun vs H Q _ => ∃ i : Int, vs = [.int i] ∧ Q (.bl true) H
theorem ok_law_whole (D : Stands K mg "_law_whole" s_law_whole) (B : Bi mg) (Er : ErrOk K mg e) : Keeps P w K mg base 1 "_law_whole" ["found"] (sp_law_whole K e) := by
  obtain ⟨f, fd, F, mF⟩ := D
  refine ⟨f, fd, ?_, F.binds (ps := ["found"]) (fun _ _ _ _ _ _ us hl => match us, hl with | [_], _ => rfl), mF, F.kp⟩
  refine toX (F.ok sc_law_whole (fun vs H Q E h => ?_) (fun cdv A outer s H vs Q E hr h => ?_))
  · obtain ⟨i, rfl, q⟩ := h
    rfl
  · obtain ⟨i, rfl, q⟩ := h
    refine ⟨_, (pss_one (ps_ret (pe_and (pe_callB call_isi (by rfl) B.isinstance (by decide +kernel) (pa_cons (pv 0) (pa_cons (pe_bltn (v := .ty "int") (by rfl) B.int (by decide +kernel) rfl) pa_nil))) (pe_one (pe_not (pe_callB call_isi (by rfl) B.isinstance (by decide +kernel) (pa_cons (pv 0) (pa_cons (pe_bltn (v := .ty "bool") (by rfl) B.bool (by decide +kernel) rfl) pa_nil)))))))), ?_⟩
    refine ⟨_, rfl, _, _, _, _, true, rfl, .ty "int", .base (.int i), kit_ty (by decide +kernel), true, rfl, iteT ?_⟩
    exact ⟨_, rfl, _, _, _, _, false, rfl, .ty "bool", .base (.int i), kit_ty (by decide +kernel), false, rfl, q⟩

abbrev s_law_common : Stmt := topS 19
abbrev N_law_common : List Str := ["one", "other", "rest"]
theorem sc_law_common : FnScope N_law_common ["one", "other"] (defScope s_law_common) := ⟨rfl, rfl, rfl, by decide +kernel, rfl, by decide +kernel, by decide +kernel⟩
def sp_law_common (K : PySem.W.Frag) (_ : ErrA) : Sp := fun vs H Q _ => ∃ x y : Int, vs = [.int x, .int y] ∧ 0 ≤ x ∧ 0 ≤ y ∧ Q (.int (gc x y)) H
theorem ok_law_common (D : Stands K mg "_law_common" s_law_common) (B : Bi mg) (Er : ErrOk K mg e) : Keeps P w K mg base 1 "_law_common" ["one", "other"] (sp_law_common K e) := by
  obtain ⟨f, fd, F, mF⟩ := D
  refine ⟨f, fd, ?_, F.binds (ps := ["one", "other"]) (fun _ _ _ _ _ _ us hl => match us, hl with | [_, _], _ => rfl), mF, F.kp⟩
  refine toX (F.ok sc_law_common (fun vs H Q E h => ?_) (fun cdv A outer s H vs Q E hr h => ?_))
  · obtain ⟨x, y, rfl, hx, hy, q⟩ := h
    rfl
  · obtain ⟨x, y, rfl, hx, hy, q⟩ := h
    refine ⟨_, (pss_cons (ps_while PassesOwn.never (pt_cmpR op_gt (pv 1) pe_int (nomark _)) (pss_cons (ps_set (i := 2) sc_law_common.nd rfl (Or.inl rfl) (pe_op op_mod (pv 0) (pv 1)))
      (pss_cons (ps_set (i := 0) sc_law_common.nd rfl (Or.inl rfl) (pv 1))
      (pss_one (ps_set (i := 1) sc_law_common.nd rfl (Or.inl rfl) (pv 2))))))
      (pss_one (ps_ret (pv 0)))), ?_⟩
    refine while_by (fun σ H' => H' = H ∧ ∃ (u v : Int) (r : Option V), σ = [some (.int u), some (.int v), r] ∧ 0 ≤ u ∧ 0 ≤ v ∧ gc u v = gc x y)
      (fun σ _ => match σ with | [_, some (.int v), _] => v.toNat | _ => 0) ⟨rfl, x, y, none, rfl, hx, hy, rfl⟩ ?_ ?_
    · rintro σ H' ⟨rfl, u, v, r, rfl, hu, hv, hg⟩
      refine ⟨_, rfl, _, _, rfl, rfl, _, rfl, ite2 (fun c => ?_) (fun c => ?_)⟩
      · have c := of_decide_eq_true c
        have m1 := Int.emod_nonneg u (b := v) (by omega)
        have m2 := Int.emod_lt_of_pos u c
        refine ⟨_, rfl, _, rfl, _, _, rfl, rfl, c, _, rfl, _, rfl, ⟨rfl, v, u % v, _, rfl, hv, m1, gc_step.trans hg⟩, ?_⟩
        show (u % v).toNat < v.toNat
        omega
      · have c : ¬ 0 < v := fun z => c (decide_eq_true z)
        have v0 : v = 0 := by omega
        subst v0
        rw [gc_zero hu] at hg
        refine ⟨_, rfl, ?_⟩
        rw [hg]
        exact q
    · rintro σ H' Q1 Q2 hq ⟨v, e1, i, j, e2, e3, k, e4, e5⟩
      exact ⟨v, e1, i, j, e2, e3, k, e4, hq _ _ e5⟩

abbrev s_law_lowest : Stmt := topS 20
abbrev N_law_lowest : List Str := ["top", "bottom", "far"]
theorem sc_law_lowest : FnScope N_law_lowest ["top", "bottom"] (defScope s_law_lowest) := ⟨rfl, rfl, rfl, by decide +kernel, rfl, by decide +kernel, by decide +kernel⟩
def sp_law_lowest (K : PySem.W.Frag) (_ : ErrA) : Sp := fun vs H Q _ => ∃ t b : Int, vs = [.int t, .int b] ∧ 0 ≤ t ∧ 1 ≤ b ∧ CDivP t (gc t b) ∧ CDivP b (gc t b) ∧
  ∀ H' p, Same H H' → H p = none → H' p = some (.tup [.int (low t b).1, .int (low t b).2]) → Q (.ref p) H'
theorem ok_law_lowest (D : Stands K mg "_law_lowest" s_law_lowest) (B : Bi mg) (Er : ErrOk K mg e)
    (h_law_common : Keeps P w K mg base 1 "_law_common" ["one", "other"] (sp_law_common K e)) : Keeps P w K mg base 2 "_law_lowest" ["top", "bottom"] (sp_law_lowest K e) := by
  obtain ⟨f, fd, F, mF⟩ := D
  obtain ⟨f_law_common, fd_law_common, G_law_common, b_law_common, m_law_common, k_law_common⟩ := h_law_common
  refine ⟨f, fd, ?_, F.binds (ps := ["top", "bottom"]) (fun _ _ _ _ _ _ us hl => match us, hl with | [_, _], _ => rfl), mF, F.kp⟩
  refine toX (F.ok sc_law_lowest (fun vs H Q E h => ?_) (fun cdv A outer s H vs Q E hr h => ?_))
  · obtain ⟨t, b, rfl, ht, hb, d1, d2, q⟩ := h
    rfl
  · obtain ⟨t, b, rfl, ht, hb, d1, d2, q⟩ := h
    refine ⟨_, (pss_cons (ps_set (i := 2) sc_law_lowest.nd rfl (Or.inl rfl) (pe_call G_law_common (hr.mono (by decide)) (by rfl) m_law_common k_law_common b_law_common .nil passL (pa_cons (pv 0) (pa_cons (pv 1) pa_nil))))
      (pss_one (ps_ret (pe_tup (pa_cons (pe_op op_fdivP (pv 0) (pv 2)) (pa_cons (pe_op op_fdivP (pv 1) (pv 2)) pa_nil)))))), ?_⟩
    have hf := gc_pos (t := t) hb
    refine ⟨_, rfl, _, rfl, t, b, rfl, ht, by omega, ?_⟩
    refine ⟨_, rfl, _, rfl, _, _, rfl, rfl, d1, _, rfl, _, rfl, _, _, rfl, rfl, d2, by show 2 ≤ sizeLine; decide, fun p hp => ?_⟩
    exact q _ p (same_new hp) hp upd_same

abbrev s_law_sum : Stmt := topS 21
abbrev N_law_sum : List Str := ["shares", "top", "bottom", "share"]
theorem sc_law_sum : FnScope N_law_sum ["shares"] (defScope s_law_sum) := ⟨rfl, rfl, rfl, by decide +kernel, rfl, by decide +kernel, by decide +kernel⟩
def sp_law_sum (K : PySem.W.Frag) (_ : ErrA) : Sp := fun vs H Q _ => ∃ (a : Addr) (xs : List Int), vs = [.ref a] ∧ SqL K H a (xs.map V.int) ∧ SumC xs ∧
  ∀ H' p, Same H H' → H p = none → H' p = some (.tup [.int (lowS xs).1, .int (lowS xs).2]) → Q (.ref p) H'
theorem ok_law_sum (D : Stands K mg "_law_sum" s_law_sum) (B : Bi mg) (Er : ErrOk K mg e)
    (h_law_lowest : Keeps P w K mg base 2 "_law_lowest" ["top", "bottom"] (sp_law_lowest K e)) : Keeps P w K mg base 3 "_law_sum" ["shares"] (sp_law_sum K e) := by
  obtain ⟨f, fd, F, mF⟩ := D
  obtain ⟨f_law_lowest, fd_law_lowest, G_law_lowest, b_law_lowest, m_law_lowest, k_law_lowest⟩ := h_law_lowest
  refine ⟨f, fd, ?_, F.binds (ps := ["shares"]) (fun _ _ _ _ _ _ us hl => match us, hl with | [_], _ => rfl), mF, F.kp⟩
  refine toX (F.ok sc_law_sum (fun vs H Q E h => ?_) (fun cdv A outer s H vs Q E hr h => ?_))
  · obtain ⟨a, xs, rfl, hS, ok, q⟩ := h
    rfl
  · obtain ⟨a, xs, rfl, hS, ok, q⟩ := h
    refine ⟨_, (pss_cons (ps_set (i := 1) sc_law_sum.nd rfl (Or.inl rfl) pe_int)
      (pss_cons (ps_set (i := 2) sc_law_sum.nd rfl (Or.inl rfl) pe_int)
      (pss_cons (ps_for PassesOwn.never rfl (pi_list (pv 0)) (pg_name (i := 3) sc_law_sum.nd rfl (Or.inl rfl)) (pss_cons (ps_set (i := 1) sc_law_sum.nd rfl (Or.inl rfl) (pe_op op_add (pe_op op_mulW (pv 1) (pv 3)) (pv 2)))
      (pss_one (ps_set (i := 2) sc_law_sum.nd rfl (Or.inl rfl) (pe_op op_mulW (pv 2) (pv 3))))))
      (pss_one (ps_ret (pe_call G_law_lowest (hr.mono (by decide)) (by rfl) m_law_lowest k_law_lowest b_law_lowest .nil passL (pa_cons (pv 1) (pa_cons (pv 2) pa_nil)))))))), ?_⟩
    refine ⟨_, rfl, a, rfl, ⟨_, hS⟩, for_list (K := K) (a := a) (xs := xs.map V.int) (fun i σ H' => H' = H ∧ ∃ v : Option V, σ = [some (.ref a), some (.int (sumS (xs.take i)).1), some (.int (sumS (xs.take i)).2), v])
      ⟨rfl, none, rfl⟩ (fun i σ H' _ h => h.1 ▸ hS) ?_ ?_⟩
    · rintro i y σ H' hy ⟨rfl, v, rfl⟩
      obtain ⟨s, es, rfl⟩ := of_get_map hy
      obtain ⟨m1, m2⟩ := ok.step es
      refine ⟨_, rfl, _, rfl, _, _, rfl, rfl, m1, _, rfl, _, _, rfl, rfl, _, rfl, _, rfl, _, _, rfl, rfl, m2, rfl, some (.int s), ?_⟩
      rw [take_snoc es, sumS_snoc] <;> rfl
    · rintro σ H' ⟨rfl, v, rfl⟩
      rw [List.length_map, List.take_length]
      obtain ⟨a1, a2, a3⟩ := sumS_pos _ ok.pos
      exact ⟨_, rfl, _, rfl, _, _, rfl, a1, a2, ok.d1, ok.d2, fun H' p s hp e => q H' p s hp e⟩

abbrev s_law_list : Stmt := topS 23
abbrev N_law_list : List Str := ["found", "due", "k"]
theorem sc_law_list : FnScope N_law_list ["found", "due"] (defScope s_law_list) := ⟨rfl, rfl, rfl, by decide +kernel, rfl, by decide +kernel, by decide +kernel⟩
/-- two lists of the same ints -/
def sp_law_list (K : PySem.W.Frag) (_ : ErrA) : Sp := fun vs H Q _ => ∃ (a b : Addr) (xs : List Int), vs = [.ref a, .ref b] ∧ SqL K H a (xs.map V.int) ∧ SqL K H b (xs.map V.int) ∧ xs.length ≤ 1000000 ∧ Q (.bl true) H
theorem ok_law_list (D : Stands K mg "_law_list" s_law_list) (B : Bi mg) (Er : ErrOk K mg e)
    (h_law_whole : Keeps P w K mg base 1 "_law_whole" ["found"] (sp_law_whole K e)) : Keeps P w K mg base 2 "_law_list" ["found", "due"] (sp_law_list K e) := by
  obtain ⟨f, fd, F, mF⟩ := D
  obtain ⟨f_law_whole, fd_law_whole, G_law_whole, b_law_whole, m_law_whole, k_law_whole⟩ := h_law_whole
  refine ⟨f, fd, ?_, F.binds (ps := ["found", "due"]) (fun _ _ _ _ _ _ us hl => match us, hl with | [_, _], _ => rfl), mF, F.kp⟩
  refine toX (F.ok sc_law_list (fun vs H Q E h => ?_) (fun cdv A outer s H vs Q E hr h => ?_))
  · obtain ⟨a, b, xs, rfl, hA, hB, hl, q⟩ := h
    rfl
  · obtain ⟨a, b, xs, rfl, hA, hB, hl, q⟩ := h
    refine ⟨_, (pss_cons (ps_if (PW.pt (pw_or (pt_not (pt_val (pe_callB call_isi (by rfl) B.isinstance (by decide +kernel) (pa_cons (pv 0) (pa_cons (pe_bltn (v := .ty "list") (by rfl) B.list (by decide +kernel) rfl) pa_nil))))) (pw_or1 (pt_cmpR op_ne (pe_callB call_len_seq (by rfl) B.len (by decide +kernel) (pa_cons (pv 0) pa_nil)) (pe_callB call_len_seq (by rfl) B.len (by decide +kernel) (pa_cons (pv 1) pa_nil)) (nomark _))))) (pss_one (ps_ret pe_bl)) pss_nil)
      (pss_cons (ps_for PassesOwn.never rfl (pi_range1 (by rfl) B.range (pa_cons (pe_callB call_len_seq (by rfl) B.len (by decide +kernel) (pa_cons (pv 1) pa_nil)) pa_nil)) (pg_name (i := 2) sc_law_list.nd rfl (Or.inl rfl)) (pss_one (ps_if (PW.pt (pw_or (pt_not (pt_val (pe_call G_law_whole (hr.mono (by decide)) (by rfl) m_law_whole k_law_whole b_law_whole .nil passL (pa_cons (pe_ix ix_list (pv 0) (pv 2) (fun _ _ => rfl)) pa_nil)))) (pw_or1 (pt_cmpR op_ne (pe_ix ix_list (pv 0) (pv 2) (fun _ _ => rfl)) (pe_ix ix_list (pv 1) (pv 2) (fun _ _ => rfl)) (nomark _))))) (pss_one (ps_ret pe_bl)) pss_nil)))
      (pss_one (ps_ret pe_bl)))), ?_⟩
    refine ⟨_, rfl, _, _, _, _, true, rfl, .ty "list", ty_list hA, kit_ty (by decide +kernel), true, rfl, ?_⟩
    show if (!true) = true then _ else _
    refine iteF ?_
    refine ⟨_, rfl, a, _, rfl, .inl hA, _, rfl, b, _, rfl, .inl hB, rfl, _, rfl, ?_⟩
    rw [decide_eq_true rfl]
    refine iteF ?_
    refine ⟨_, rfl, b, _, rfl, .inl hB, _, rfl, by omega, by rw [List.length_map]; omega, ?_⟩
    refine for_range (lo := 0) (n := _) (fun i σ H' => ∃ v : Option V, σ = [some (.ref a), some (.ref b), v] ∧ H' = H) ⟨none, rfl, rfl⟩ ?_ ?_
    · rintro i σ H' hi ⟨v, rfl, rfl⟩
      have hi : i < xs.length := by
        rw [List.length_map] at hi
        omega
      have g : (xs.map V.int)[i]? = some (.int xs[i]) := get_map (List.getElem?_eq_getElem hi)
      have e0 : (0 : Int) + (i : Int) = (i : Int) := by omega
      refine ⟨_, rfl, _, rfl, a, _, _, _, rfl, rfl, hA, by rw [e0]; exact atI_nat g, _, rfl, true, rfl, ?_⟩
      show if (!true) = true then _ else _
      refine iteF ?_
      refine ⟨_, rfl, _, rfl, a, _, _, _, rfl, rfl, hA, by rw [e0]; exact atI_nat g, _, rfl, _, rfl, b, _, _, _, rfl, rfl, hB, by rw [e0]; exact atI_nat g, rfl, _, rfl, ?_⟩
      rw [decide_eq_true rfl]
      exact iteF ⟨_, rfl, rfl⟩
    · rintro σ H' ⟨v, rfl, rfl⟩
      exact q

abbrev s_law_rows : Stmt := topS 24
abbrev N_law_rows : List Str := ["most", "greatest", "found", "ahead", "many", "fresh", "row", "least", "share"]
theorem sc_law_rows : FnScope N_law_rows ["most", "greatest"] (defScope s_law_rows) := ⟨rfl, rfl, rfl, by decide +kernel, rfl, by decide +kernel, by decide +kernel⟩
def sp_law_rows (K : PySem.W.Frag) (_ : ErrA) : Sp := fun vs H Q _ => ∃ (m : Nat) (g : Int), vs = [.int (m : Int), .int g] ∧ m ≤ 4 ∧ 0 ≤ g ∧ g ≤ 60 ∧
  ∀ H' p ps, Same H H' → H p = none → H' p = some (.lst (ps.map V.ref)) → Rws H H' ps (rowsF g m) → p ∉ ps → Q (.ref p) H'
theorem ok_law_rows (D : Stands K mg "_law_rows" s_law_rows) (B : Bi mg) (Er : ErrOk K mg e) : Keeps P w K mg base 1 "_law_rows" ["most", "greatest"] (sp_law_rows K e) := by
  obtain ⟨f, fd, F, mF⟩ := D
  refine ⟨f, fd, ?_, F.binds (ps := ["most", "greatest"]) (fun _ _ _ _ _ _ us hl => match us, hl with | [_, _], _ => rfl), mF, F.kp⟩
  refine toX (F.ok sc_law_rows (fun vs H Q E h => ?_) (fun cdv A outer s H vs Q E hr h => ?_))
  · obtain ⟨m, g, rfl, m4, hg, hg2, q⟩ := h
    rfl
  · obtain ⟨m, g, rfl, m4, hg, hg2, q⟩ := h
    refine ⟨_, (pss_cons (ps_set (i := 2) sc_law_rows.nd rfl (Or.inl rfl) (pe_lst pa_nil))
      (pss_cons (ps_set (i := 3) sc_law_rows.nd rfl (Or.inl rfl) (pe_lst (pa_cons (pe_lst pa_nil) pa_nil)))
      (pss_cons (ps_for PassesOwn.never rfl (pi_range1 (by rfl) B.range (pa_cons (pv 0) pa_nil)) (pg_name (i := 4) sc_law_rows.nd rfl (Or.inl rfl)) (pss_cons (ps_set (i := 5) sc_law_rows.nd rfl (Or.inl rfl) (pe_lst pa_nil))
      (pss_cons (ps_for PassesOwn.never rfl (pi_list (pv 3)) (pg_name (i := 6) sc_law_rows.nd rfl (Or.inl rfl)) (pss_cons (ps_set (i := 7) sc_law_rows.nd rfl (Or.inl rfl) pe_int)
      (pss_cons (ps_if (pt_cmpR (op_neD hr.units) (pv 6) (pe_lst pa_nil) (nomark _)) (pss_one (ps_set (i := 7) sc_law_rows.nd rfl (Or.inl rfl) (pe_op op_add (pe_ix ix_list (pv 6) (pe_un un_neg pe_int) (fun _ _ => rfl)) pe_int))) pss_nil)
      (pss_one (ps_for PassesOwn.never rfl (pi_range2 (by rfl) B.range (pa_cons (pv 7) (pa_cons (pe_op op_add (pv 1) pe_int) pa_nil))) (pg_name (i := 8) sc_law_rows.nd rfl (Or.inl rfl)) (pss_one (ps_expr (pe_bm PySem.F.plainAttrs_list PySem.F.slot_list_append PySem.F.type_list_append mt_append (pv 5) (pa_cons (pe_op op_cat (pv 6) (pe_lst (pa_cons (pv 8) pa_nil))) pa_nil)))))))))
      (pss_cons (ps_set (i := 3) sc_law_rows.nd rfl (Or.inl rfl) (pv 5))
      (pss_one (ps_set (i := 2) sc_law_rows.nd rfl (Or.inl rfl) (pe_op op_cat (pv 2) (pv 5))))))))
      (pss_one (ps_ret (pv 2)))))), ?_⟩
    refine ⟨Nat.zero_le _, fun f0 nf0 => ⟨Nat.zero_le _, fun e0 ne0 => ⟨by show 1 ≤ sizeLine; decide, fun a0 na0 => ?_⟩⟩⟩
    have s0 := ((same_new (o := .lst []) nf0).trans (same_new (o := .lst []) ne0)).trans (same_new (o := .lst [.ref e0]) na0)
    have ef0 : (upd (upd (upd H f0 (.lst [])) e0 (.lst [])) a0 (.lst [.ref e0])) f0 = some (.lst []) := same_new na0 _ _ (same_new ne0 _ _ upd_same)
    have ee0 : (upd (upd (upd H f0 (.lst [])) e0 (.lst [])) a0 (.lst [.ref e0])) e0 = some (.lst []) := same_new na0 _ _ upd_same
    have ea0 : (upd (upd (upd H f0 (.lst [])) e0 (.lst [])) a0 (.lst [.ref e0])) a0 = some (.lst [.ref e0]) := upd_same
    have he0 : H e0 = none := (same_new nf0).free ne0
    dsimp only
    generalize (upd (upd (upd H f0 (.lst [])) e0 (.lst [])) a0 (.lst [.ref e0])) = H0 at s0 ef0 ee0 ea0
    refine ⟨_, rfl, _, rfl, by omega, by omega, ?_⟩
    refine for_range (lo := 0) (n := m) (fun i σ H' => Same H H' ∧ ∃ (fp ap : Addr) (fs as : List Addr) (v4 v5 v6 v7 v8 : Option V), σ = [some (.int (m : Int)), some (.int g), some (.ref fp), some (.ref ap), v4, v5, v6, v7, v8] ∧ H fp = none ∧ H' fp = some (.lst (fs.map V.ref)) ∧ Rws H H' fs (rowsF g i) ∧ fp ∉ fs ∧
      H' ap = some (.lst (as.map V.ref)) ∧ Rws H H' as (Lw g i [[]])) ⟨s0, f0, a0, [], [e0], none, none, none, none, none, rfl, nf0, ef0, Rws.nil, by simp, ea0, Rws.one he0 ee0⟩ ?_ ?_
    · rintro i σ H1 hi ⟨s1, fp, ap, fs, as, v4, v5, v6, v7, v8, rfl, hfp, efp, rf, nfs, eap, ra⟩
      have lw1 := lw_len (k := i + 1) hg hg2 (by omega)
      have p4 : 60 ^ (i + 1) ≤ 60 ^ 4 := Nat.pow_le_pow_right (by decide) (by omega)
      have ex : Lw g (i + 1) [[]] = (Lw g i [[]]).flatMap (ext g) := rfl
      refine ⟨Nat.zero_le _, fun X nX => ?_⟩
      have s2 := same_new (o := .lst []) nX
      have eX : (upd H1 X (.lst [])) X = some (.lst []) := upd_same
      have hX : H X = none := s1.free nX
      have Xa : X ∉ as := fun z => by
        obtain ⟨_, r, _, e⟩ := ra.mem z
        rw [nX] at e
        cases e
      have Xf : X ∉ fs := fun z => by
        obtain ⟨_, r, _, e⟩ := rf.mem z
        rw [nX] at e
        cases e
      have apX : ap ≠ X := ne_of_none eap nX
      have fpX : fp ≠ X := ne_of_none efp nX
      have efp2 := s2 _ _ efp
      have eap2 := s2 _ _ eap
      have rf2 := rf.same s2
      have ra2 := ra.same s2
      dsimp only
      generalize (upd H1 X (.lst [])) = H2 at s2 eX efp2 eap2 rf2 ra2
      have base : ∀ {H' : Hp}, SameB X H2 H' → Same H H' := fun {H'} s => SameB.same (s1.trans s2) hX s
      refine ⟨_, rfl, ap, rfl, ⟨_, SqL.of eap2⟩, for_list (K := K) (a := ap) (xs := as.map V.ref) (fun j σ H' => SameB X H2 H' ∧ ∃ (xs : List Addr) (v6 v7 v8 : Option V), σ = [some (.int (m : Int)), some (.int g), some (.ref fp), some (.ref ap), some (.int (0 + (i : Int))), some (.ref X), v6, v7, v8] ∧
        H' X = some (.lst (xs.map V.ref)) ∧ X ∉ xs ∧ Rws H H' xs (((Lw g i [[]]).take j).flatMap (ext g))) ⟨SameB.refl _, [], v6, v7, v8, rfl, eX, by simp, Rws.nil⟩ (fun j σ H' _ h => SqL.of (h.1 _ _ apX eap2)) ?_ ?_⟩
      · rintro j y σ H3 hy ⟨s3, xs, v6, v7, v8, rfl, eX3, Xx, rx⟩
        obtain ⟨p, ep, rfl⟩ := of_get_map hy
        obtain ⟨r, er, hp, ept⟩ := ra2.get ep
        have pX : p ≠ X := fun z => Xa (z ▸ List.mem_of_getElem? ep)
        have ep3 := s3 _ _ pX ept
        obtain ⟨rl, rb⟩ := lw_row (List.mem_of_getElem? er)
        have tl1 := take_flat_len (ext g) (Lw g i [[]]) (j + 1)
        rw [take_snoc er, flatMap_snoc, List.length_append, ← ex] at tl1
        have el : (ext g r).length = (g + 1 - (lastI r + 1)).toNat := by
          unfold ext
          rw [List.length_map, span_len]
        have lb : 0 ≤ lastI r ∧ lastI r ≤ 60 := by
          by_cases z : r = []
          · rw [z]
            show (0 : Int) ≤ 0 ∧ (0 : Int) ≤ 60
            omega
          · have := rb (lastI r) (by
              obtain ⟨l, x, rfl⟩ : ∃ l x, r = l ++ [x] := ⟨r.dropLast, r.getLast z, (List.dropLast_concat_getLast z).symm⟩
              rw [lastI_snoc]
              exact List.mem_append_right _ List.mem_cons_self)
            omega
        show tSeq (tAsg _ _) _ _ _ _
        refine asg_c ?_
        refine cut (fun σ' H' => Same H3 H' ∧ σ' = [some (.int (m : Int)), some (.int g), some (.ref fp), some (.ref ap), some (.int (0 + (i : Int))), some (.ref X), some (.ref p), some (.int (lastI r + 1)), v8]) (fun R D' k => ?_) ?_
        · refine ⟨_, rfl, Nat.zero_le _, fun z nz => ⟨_, _, dp_ints (SqL.of (same_new nz _ _ ep3)), dp_ints (xs := []) (SqL.of upd_same), shaped_ints _, rfl, _, rfl, ?_⟩⟩
          rw [eqv_ints]
          have ep4 := same_new (o := .lst []) nz _ _ ep3
          by_cases c : r = []
          · rw [decide_eq_true c]
            refine iteF (k _ _ ⟨same_new nz, ?_⟩)
            rw [c] <;> rfl
          · rw [decide_eq_false c]
            exact iteT ⟨_, rfl, _, rfl, p, _, _, _, rfl, rfl, SqL.of ep4, at_lastI c, _, _, rfl, rfl, k _ _ ⟨same_new nz, rfl⟩⟩
        · rintro σ H4 ⟨s4, rfl⟩
          have eX4 := s4 _ _ eX3
          have ep4 := s4 _ _ ep3
          have rx4 := rx.same s4
          have xl := rx.len
          refine ⟨_, rfl, _, rfl, _, _, rfl, rfl, _, _, rfl, ⟨by omega, by omega, by omega, by omega⟩, ?_⟩
          refine for_range (lo := lastI r + 1) (n := (g + 1 - (lastI r + 1)).toNat) (fun k σ H' => SameB X H4 H' ∧ ∃ (ds : List Addr) (v8 : Option V), σ = [some (.int (m : Int)), some (.int g), some (.ref fp), some (.ref ap), some (.int (0 + (i : Int))), some (.ref X), some (.ref p), some (.int (lastI r + 1)), v8] ∧
            H' X = some (.lst ((xs ++ ds).map V.ref)) ∧ X ∉ ds ∧ Rws H H' ds (((span (lastI r + 1) g).take k).map fun s => r ++ [s])) ⟨SameB.refl _, [], v8, rfl, by rw [List.append_nil]; exact eX4, by simp, Rws.nil⟩ ?_ ?_
          · rintro k σ H5 hk ⟨s5, ds, v8, rfl, eX5, Xd, rd⟩
            have sg := span_get (lo := lastI r + 1) (hi := g) hk
            obtain ⟨s, es⟩ : ∃ s : Int, lastI r + 1 + (k : Int) = s := ⟨_, rfl⟩
            rw [es] at sg ⊢
            have ep5 := s5 _ _ pX ep4
            have dl : ds.length ≤ k := by
              rw [rd.len, List.length_map, List.length_take]
              exact Nat.min_le_left _ _
            have h5 := base (s3.trans ((SameB.of s4).trans s5))
            refine ⟨_, rfl, .inl ⟨rfl, _, SqL.of eX5⟩, _, rfl, _, rfl, by show 1 ≤ sizeLine; decide, fun c nc => ⟨p, c, _, _, rfl, rfl, same_new nc _ _ ep5, upd_same, by rw [List.length_map, rl]; exact szl (by show i + 1 ≤ _; omega), fun d nd => ?_⟩⟩
            have s7 := (same_new (o := .lst [.int s]) nc).trans (same_new (o := .lst (r.map V.int ++ [V.int s])) nd)
            have ed : (upd (upd H5 c (.lst [.int s])) d (.lst (r.map V.int ++ [V.int s]))) d = some (.lst ((r ++ [s]).map V.int)) := by
              rw [upd_same, List.map_append] <;> rfl
            have nd5 : H5 d = none := (same_new nc).free nd
            generalize (upd (upd H5 c (.lst [.int s])) d (.lst (r.map V.int ++ [V.int s]))) = H6 at s7 ed
            have eX6 := s7 _ _ eX5
            refine ⟨X, _, _, rfl, rfl, eX6, ?_, ?_⟩
            · rw [List.length_map, List.length_append, xl]
              exact szl_lt (by omega)
            · have dX : d ≠ X := fun z => by
                rw [z, eX5] at nd5
                cases nd5
              have b7 : SameB X H5 (upd H6 X (.lst ((xs ++ ds).map V.ref ++ [.ref d]))) := (SameB.of s7).trans SameB.put
              refine ⟨s5.trans b7, ds ++ [d], _, rfl, ?_, ?_, ?_⟩
              · rw [upd_same, ← List.append_assoc xs, List.map_append (l₁ := xs ++ ds)] <;> rfl
              · intro z
                rcases List.mem_append.mp z with z | z
                · exact Xd z
                · exact dX (List.mem_singleton.mp z).symm
              · rw [take_snoc sg, List.map_append (f := fun s => r ++ [s])]
                refine (rd.sameB b7 Xd).append (Rws.one (h5.free nd5) ?_)
                rw [upd_ne dX]
                exact ed
          · rintro σ H5 ⟨s5, ds, v8, rfl, eX5, Xd, rd⟩
            rw [← span_len, List.take_length] at rd
            refine ⟨s3.trans ((SameB.of s4).trans s5), xs ++ ds, _, _, _, rfl, eX5, ?_, ?_⟩
            · intro z
              rcases List.mem_append.mp z with z | z
              · exact Xx z
              · exact Xd z
            · rw [take_snoc er, flatMap_snoc]
              exact (rx4.sameB s5 Xx).append rd
      · rintro σ H3 ⟨s3, xs, v6, v7, v8, rfl, eX3, Xx, rx⟩
        rw [List.length_map, ra.len, List.take_length, ← ex] at rx
        have efp3 := s3 _ _ fpX efp2
        have rf3 := rf2.sameB s3 Xf
        have rl := rowsF_len hg hg2 (m := i + 1) (by omega)
        rw [rowsF_snoc, List.length_append] at rl
        refine ⟨_, rfl, _, rfl, _, rfl, fp, X, _, _, rfl, rfl, efp3, eX3, ?_, fun N nN => ?_⟩
        · rw [List.length_map, List.length_map, rf.len, rx.len]
          exact szl (by omega)
        · have s4 := same_new (o := .lst (fs.map V.ref ++ xs.map V.ref)) nN
          have h3 := base s3
          have ra3 : Rws H H3 (fs ++ xs) (rowsF g (i + 1)) := by
            rw [rowsF_snoc]
            exact rf3.append rx
          refine ⟨h3.trans s4, N, X, fs ++ xs, xs, _, _, _, _, _, rfl, h3.free nN, ?_, ra3.same s4, ?_, s4 _ _ eX3, rx.same s4⟩
          · rw [upd_same, List.map_append]
          · intro z
            obtain ⟨_, r, _, e⟩ := ra3.mem z
            rw [nN] at e
            cases e
    · rintro σ H1 ⟨s1, fp, ap, fs, as, v4, v5, v6, v7, v8, rfl, hfp, efp, rf, nfs, eap, ra⟩
      exact ⟨_, rfl, q H1 fp fs s1 hfp efp rf nfs⟩

abbrev s_law_comes : Stmt := topS 25
abbrev N_law_comes : List Str := ["row", "fraction", "top", "bottom", "share"]
theorem sc_law_comes : FnScope N_law_comes ["row", "fraction"] (defScope s_law_comes) := ⟨rfl, rfl, rfl, by decide +kernel, rfl, by decide +kernel, by decide +kernel⟩
def sp_law_comes (K : PySem.W.Frag) (_ : ErrA) : Sp := fun vs H Q _ => ∃ (c a : Addr) (xs : List Int) (t b : Int), vs = [.ref c, .ref a] ∧ SqL K H c (xs.map V.int) ∧ SqT K H a [.int t, .int b] ∧ SumOk xs ∧ Sz 1000 t ∧ Sz 1000 b ∧ Q (.bl (decide (Comes xs t b))) H
theorem ok_law_comes (D : Stands K mg "_law_comes" s_law_comes) (B : Bi mg) (Er : ErrOk K mg e) : Keeps P w K mg base 1 "_law_comes" ["row", "fraction"] (sp_law_comes K e) := by
  obtain ⟨f, fd, F, mF⟩ := D
  refine ⟨f, fd, ?_, F.binds (ps := ["row", "fraction"]) (fun _ _ _ _ _ _ us hl => match us, hl with | [_, _], _ => rfl), mF, F.kp⟩
  refine toX (F.ok sc_law_comes (fun vs H Q E h => ?_) (fun cdv A outer s H vs Q E hr h => ?_))
  · obtain ⟨c, a, xs, t, b, rfl, hC, hA, ok, zt, zb, q⟩ := h
    rfl
  · obtain ⟨c, a, xs, t, b, rfl, hC, hA, ok, zt, zb, q⟩ := h
    refine ⟨_, (pss_cons (ps_set (i := 2) sc_law_comes.nd rfl (Or.inl rfl) pe_int)
      (pss_cons (ps_set (i := 3) sc_law_comes.nd rfl (Or.inl rfl) pe_int)
      (pss_cons (ps_for PassesOwn.never rfl (pi_list (pv 0)) (pg_name (i := 4) sc_law_comes.nd rfl (Or.inl rfl)) (pss_cons (ps_set (i := 2) sc_law_comes.nd rfl (Or.inl rfl) (pe_op op_add (pe_op op_mulW (pv 2) (pv 4)) (pv 3)))
      (pss_one (ps_set (i := 3) sc_law_comes.nd rfl (Or.inl rfl) (pe_op op_mulW (pv 3) (pv 4))))))
      (pss_one (ps_ret (pe_cmpR op_eq (pe_op op_mulW (pv 2) (pe_ix ix_tup (pv 1) pe_int (fun _ _ => rfl))) (pe_op op_mulW (pe_ix ix_tup (pv 1) pe_int (fun _ _ => rfl)) (pv 3)) (nomark _))))))), ?_⟩
    have okc := ok.c
    refine ⟨_, rfl, c, rfl, ⟨_, hC⟩, for_list (K := K) (a := c) (xs := xs.map V.int) (fun i σ H' => H' = H ∧ ∃ v : Option V, σ = [some (.ref c), some (.ref a), some (.int (sumS (xs.take i)).1), some (.int (sumS (xs.take i)).2), v])
      ⟨rfl, none, rfl⟩ (fun i σ H' _ h => h.1 ▸ hC) ?_ ?_⟩
    · rintro i y σ H' hy ⟨rfl, v, rfl⟩
      obtain ⟨s, es, rfl⟩ := of_get_map hy
      obtain ⟨m1, m2⟩ := okc.step es
      refine ⟨_, rfl, _, rfl, _, _, rfl, rfl, m1, _, rfl, _, _, rfl, rfl, _, rfl, _, rfl, _, _, rfl, rfl, m2, rfl, some (.int s), ?_⟩
      rw [take_snoc es, sumS_snoc] <;> rfl
    · rintro σ H' ⟨rfl, v, rfl⟩
      rw [List.length_map, List.take_length]
      refine ⟨_, rfl, _, rfl, a, _, 1, _, rfl, rfl, hA, atI_nat (j := 1) rfl, _, _, rfl, rfl, ok.top.cm zb, ?_⟩
      refine ⟨_, rfl, a, _, 0, _, rfl, rfl, hA, atI_nat (j := 0) rfl, _, rfl, _, _, rfl, rfl, zt.cm ok.sz, rfl, ?_⟩
      have e : decide (V.int ((sumS xs).1 * b) = V.int (t * (sumS xs).2)) = decide (Comes xs t b) := decide_eq_decide.mpr ⟨fun z => V.int.inj z, fun z => congrArg V.int z⟩
      show Q (.bl (decide (V.int ((sumS xs).1 * b) = V.int (t * (sumS xs).2)))) H'
      rw [e]
      exact q

abbrev s_law_small : Stmt := topS 26
abbrev N_law_small : List Str := ["script", "first", "some", "bottom"]
theorem sc_law_small : FnScope N_law_small ["script", "first"] (defScope s_law_small) := ⟨rfl, rfl, rfl, by decide +kernel, rfl, by decide +kernel, by decide +kernel⟩
/-- a small fraction between nought and one -/
def sp_law_small (K : PySem.W.Frag) (_ : ErrA) : Sp := fun vs H Q _ => ∃ (a : Addr) (ns : List Int) (f : Nat), vs = [.ref a, .int f] ∧ SqL K H a (ns.map V.int) ∧ ns.length ≤ 63 ∧
  ∀ (t b : Int) H' p, 1 ≤ t → t < b → b ≤ 24 → Same H H' → H' p = some (.tup [.int t, .int b]) → Q (.ref p) H'
theorem ok_law_small (D : Stands K mg "_law_small" s_law_small) (B : Bi mg) (Er : ErrOk K mg e)
    (h_law_cell_at : Keeps P w K mg base 1 "_law_cell_at" ["script", "k"] (sp_law_cell_at K e)) : Keeps P w K mg base 2 "_law_small" ["script", "first"] (sp_law_small K e) := by
  obtain ⟨f, fd, F, mF⟩ := D
  obtain ⟨f_law_cell_at, fd_law_cell_at, G_law_cell_at, b_law_cell_at, m_law_cell_at, k_law_cell_at⟩ := h_law_cell_at
  refine ⟨f, fd, ?_, F.binds (ps := ["script", "first"]) (fun _ _ _ _ _ _ us hl => match us, hl with | [_, _], _ => rfl), mF, F.kp⟩
  refine toX (F.ok sc_law_small (fun vs H Q E h => ?_) (fun cdv A outer s H vs Q E hr h => ?_))
  · obtain ⟨a, ns, f, rfl, hS, hlen, q⟩ := h
    rfl
  · obtain ⟨a, ns, f, rfl, hS, hlen, q⟩ := h
    refine ⟨_, (pss_cons (ps_set (i := 2) sc_law_small.nd rfl (Or.inl rfl) (pe_lst (pa_cons (pe_tup (pa_cons pe_int (pa_cons pe_int pa_nil))) (pa_cons (pe_tup (pa_cons pe_int (pa_cons pe_int pa_nil))) (pa_cons (pe_tup (pa_cons pe_int (pa_cons pe_int pa_nil))) (pa_cons (pe_tup (pa_cons pe_int (pa_cons pe_int pa_nil))) (pa_cons (pe_tup (pa_cons pe_int (pa_cons pe_int pa_nil))) (pa_cons (pe_tup (pa_cons pe_int (pa_cons pe_int pa_nil))) (pa_cons (pe_tup (pa_cons pe_int (pa_cons pe_int pa_nil))) (pa_cons (pe_tup (pa_cons pe_int (pa_cons pe_int pa_nil))) (pa_cons (pe_tup (pa_cons pe_int (pa_cons pe_int pa_nil))) (pa_cons (pe_tup (pa_cons pe_int (pa_cons pe_int pa_nil))) (pa_cons (pe_tup (pa_cons pe_int (pa_cons pe_int pa_nil))) (pa_cons (pe_tup (pa_cons pe_int (pa_cons pe_int pa_nil))) pa_nil))))))))))))))
      (pss_cons (ps_if (pt_cmpR op_gt (pe_op op_mod (pe_call G_law_cell_at (hr.mono (by decide)) (by rfl) m_law_cell_at k_law_cell_at b_law_cell_at .nil passL (pa_cons (pv 0) (pa_cons (pv 1) pa_nil))) pe_int) pe_int (nomark _)) (pss_one (ps_ret (pe_ix ix_list (pv 2) (pe_op op_mod (pe_op op_fdivP (pe_call G_law_cell_at (hr.mono (by decide)) (by rfl) m_law_cell_at k_law_cell_at b_law_cell_at .nil passL (pa_cons (pv 0) (pa_cons (pv 1) pa_nil))) pe_int) pe_int) (fun _ _ => rfl)))) pss_nil)
      (pss_cons (ps_set (i := 3) sc_law_small.nd rfl (Or.inl rfl) (pe_op op_add pe_int (pe_op op_mod (pe_op op_fdivP (pe_call G_law_cell_at (hr.mono (by decide)) (by rfl) m_law_cell_at k_law_cell_at b_law_cell_at .nil passL (pa_cons (pv 0) (pa_cons (pv 1) pa_nil))) pe_int) pe_int)))
      (pss_one (ps_ret (pe_tup (pa_cons (pe_op op_add pe_int (pe_op op_mod (pe_call G_law_cell_at (hr.mono (by decide)) (by rfl) m_law_cell_at k_law_cell_at b_law_cell_at .nil passL (pa_cons (pv 0) (pa_cons (pe_op op_add (pv 1) pe_int) pa_nil))) (pe_op op_sub (pv 3) pe_int))) (pa_cons (pv 3) pa_nil)))))))), ?_⟩
    have two : 2 ≤ sizeLine := by decide
    refine ⟨two, fun p0 n0 => ⟨two, fun p1 n1 => ⟨two, fun p2 n2 => ⟨two, fun p3 n3 => ⟨two, fun p4 n4 => ⟨two, fun p5 n5 => ⟨two, fun p6 n6 => ⟨two, fun p7 n7 => ⟨two, fun p8 n8 => ⟨two, fun p9 n9 => ⟨two, fun p10 n10 => ⟨two, fun p11 n11 => ⟨by show 12 ≤ sizeLine; decide, fun L nL => ?_⟩⟩⟩⟩⟩⟩⟩⟩⟩⟩⟩⟩⟩
    have all : ∃ H', (upd (upd (upd (upd (upd (upd (upd (upd (upd (upd (upd (upd (upd H p0 (.tup [.int 1, .int 2])) p1 (.tup [.int 2, .int 3])) p2 (.tup [.int 3, .int 4])) p3 (.tup [.int 5, .int 6])) p4 (.tup [.int 7, .int 12])) p5 (.tup [.int 3, .int 5])) p6 (.tup [.int 1, .int 3])) p7 (.tup [.int 11, .int 12])) p8 (.tup [.int 5, .int 12])) p9 (.tup [.int 2, .int 5])) p10 (.tup [.int 4, .int 5])) p11 (.tup [.int 9, .int 10])) L (.lst [.ref p0, .ref p1, .ref p2, .ref p3, .ref p4, .ref p5, .ref p6, .ref p7, .ref p8, .ref p9, .ref p10, .ref p11])) = H' ∧
        Same H H' ∧ H' L = some (.lst [.ref p0, .ref p1, .ref p2, .ref p3, .ref p4, .ref p5, .ref p6, .ref p7, .ref p8, .ref p9, .ref p10, .ref p11]) ∧
        ∀ j : Nat, j < 12 → ∃ (p : Addr) (t b : Int), [V.ref p0, .ref p1, .ref p2, .ref p3, .ref p4, .ref p5, .ref p6, .ref p7, .ref p8, .ref p9, .ref p10, .ref p11][j]? = some (.ref p) ∧ 1 ≤ t ∧ t < b ∧ b ≤ 24 ∧ H' p = some (.tup [.int t, .int b]) := by
      refine ⟨_, rfl, ?_, upd_same, fun j hj => ?_⟩
      · exact (((((((((((same_new n0).trans (same_new n1)).trans (same_new n2)).trans (same_new n3)).trans (same_new n4)).trans (same_new n5)).trans (same_new n6)).trans (same_new n7)).trans (same_new n8)).trans (same_new n9)).trans (same_new n10)).trans ((same_new n11).trans (same_new nL))
      · have sL := fun {o : HO} => same_new (o := o) nL
        have s11 := fun {o : HO} => (same_new (o := o) n11)
        obtain rfl | rfl | rfl | rfl | rfl | rfl | rfl | rfl | rfl | rfl | rfl | rfl : j = 0 ∨ j = 1 ∨ j = 2 ∨ j = 3 ∨ j = 4 ∨ j = 5 ∨ j = 6 ∨ j = 7 ∨ j = 8 ∨ j = 9 ∨ j = 10 ∨ j = 11 := by omega
        · exact ⟨p0, 1, 2, rfl, by decide, by decide, by decide, same_new nL _ _ (same_new n11 _ _ (same_new n10 _ _ (same_new n9 _ _ (same_new n8 _ _ (same_new n7 _ _ (same_new n6 _ _ (same_new n5 _ _ (same_new n4 _ _ (same_new n3 _ _ (same_new n2 _ _ (same_new n1 _ _ upd_same)))))))))))⟩
        · exact ⟨p1, 2, 3, rfl, by decide, by decide, by decide, same_new nL _ _ (same_new n11 _ _ (same_new n10 _ _ (same_new n9 _ _ (same_new n8 _ _ (same_new n7 _ _ (same_new n6 _ _ (same_new n5 _ _ (same_new n4 _ _ (same_new n3 _ _ (same_new n2 _ _ upd_same))))))))))⟩
        · exact ⟨p2, 3, 4, rfl, by decide, by decide, by decide, same_new nL _ _ (same_new n11 _ _ (same_new n10 _ _ (same_new n9 _ _ (same_new n8 _ _ (same_new n7 _ _ (same_new n6 _ _ (same_new n5 _ _ (same_new n4 _ _ (same_new n3 _ _ upd_same)))))))))⟩
        · exact ⟨p3, 5, 6, rfl, by decide, by decide, by decide, same_new nL _ _ (same_new n11 _ _ (same_new n10 _ _ (same_new n9 _ _ (same_new n8 _ _ (same_new n7 _ _ (same_new n6 _ _ (same_new n5 _ _ (same_new n4 _ _ upd_same))))))))⟩
        · exact ⟨p4, 7, 12, rfl, by decide, by decide, by decide, same_new nL _ _ (same_new n11 _ _ (same_new n10 _ _ (same_new n9 _ _ (same_new n8 _ _ (same_new n7 _ _ (same_new n6 _ _ (same_new n5 _ _ upd_same)))))))⟩
        · exact ⟨p5, 3, 5, rfl, by decide, by decide, by decide, same_new nL _ _ (same_new n11 _ _ (same_new n10 _ _ (same_new n9 _ _ (same_new n8 _ _ (same_new n7 _ _ (same_new n6 _ _ upd_same))))))⟩
        · exact ⟨p6, 1, 3, rfl, by decide, by decide, by decide, same_new nL _ _ (same_new n11 _ _ (same_new n10 _ _ (same_new n9 _ _ (same_new n8 _ _ (same_new n7 _ _ upd_same)))))⟩
        · exact ⟨p7, 11, 12, rfl, by decide, by decide, by decide, same_new nL _ _ (same_new n11 _ _ (same_new n10 _ _ (same_new n9 _ _ (same_new n8 _ _ upd_same))))⟩
        · exact ⟨p8, 5, 12, rfl, by decide, by decide, by decide, same_new nL _ _ (same_new n11 _ _ (same_new n10 _ _ (same_new n9 _ _ upd_same)))⟩
        · exact ⟨p9, 2, 5, rfl, by decide, by decide, by decide, same_new nL _ _ (same_new n11 _ _ (same_new n10 _ _ upd_same))⟩
        · exact ⟨p10, 4, 5, rfl, by decide, by decide, by decide, same_new nL _ _ (same_new n11 _ _ upd_same)⟩
        · exact ⟨p11, 9, 10, rfl, by decide, by decide, by decide, same_new nL _ _ upd_same⟩
    obtain ⟨H', eH, s1, eL, at1⟩ := all
    dsimp only
    rw [eH]
    have hS1 := s1.seq hS
    refine ⟨_, rfl, _, rfl, a, ns, f, rfl, hS1, hlen, _, _, rfl, rfl, by show (0 : Int) < 3; decide, _, _, rfl, rfl, _, rfl, ite2 (fun c => ?_) (fun c => ?_)⟩
    · obtain ⟨p, t, b, ep, t1, tb, b2, et⟩ := at1 (cell ns f / 3 % 12).toNat (by omega)
      refine ⟨_, rfl, _, rfl, _, rfl, a, ns, f, rfl, hS1, hlen, _, _, rfl, rfl, (Sz.lit : Sz 2 3).cd (by decide), _, _, rfl, rfl, by show (0 : Int) < 12; decide, L, _, _, _, rfl, rfl, SqL.of eL, at_of (j := (cell ns f / 3 % 12).toNat) (by omega) ep, ?_⟩
      exact q t b H' p t1 tb b2 s1 et
    · refine ⟨_, rfl, _, rfl, a, ns, f, rfl, hS1, hlen, _, _, rfl, rfl, (Sz.lit : Sz 2 3).cd (by decide), _, _, rfl, rfl, by show (0 : Int) < 23; decide, _, _, rfl, rfl, ?_⟩
      obtain ⟨b, eb⟩ : ∃ b : Int, 2 + cell ns f / 3 % 23 = b := ⟨_, rfl⟩
      have m1 := Int.emod_nonneg (cell ns (f + 1)) (b := b - 1) (by omega)
      have m2 := Int.emod_lt_of_pos (cell ns (f + 1)) (b := b - 1) (by omega)
      dsimp only
      rw [eb]
      refine ⟨_, rfl, _, rfl, _, _, rfl, rfl, a, ns, f + 1, cell_arg (by omega), hS1, hlen, _, rfl, _, _, rfl, rfl, _, _, rfl, rfl, by show 0 < b - 1; omega, _, _, rfl, rfl, _, rfl, two, fun p np => ?_⟩
      exact q _ b _ p (by omega) (by omega) (by omega) (s1.trans (same_new np)) upd_same

abbrev s_law_built : Stmt := topS 27
abbrev N_law_built : List Str := ["script", "row", "least", "k", "total", "found", "here"]
theorem sc_law_built : FnScope N_law_built ["script"] (defScope s_law_built) := ⟨rfl, rfl, rfl, by decide +kernel, rfl, by decide +kernel, by decide +kernel⟩
def bndB : Nat → Int
  | 0 => 3
  | 1 => 9
  | 2 => 21
  | _ => 39
def prdB : Nat → Int
  | 0 => 1
  | 1 => 9
  | 2 => 189
  | _ => 7371
def sp_law_built (K : PySem.W.Frag) (_ : ErrA) : Sp := fun vs H Q _ => ∃ (a : Addr) (ns : List Int), vs = [.ref a] ∧ SqL K H a (ns.map V.int) ∧ ns.length ≤ 63 ∧ ∀ H', Q (.bl true) H'
theorem ok_law_built (D : Stands K mg "_law_built" s_law_built) (B : Bi mg) (Er : ErrOk K mg e)
    (h_law_sum : Keeps P w K mg base 3 "_law_sum" ["shares"] (sp_law_sum K e))
    (h_all_ways : Keeps P w K mg base 10 "all_ways" ["fraction", "most", "greatest"] (sp_all_ways K e))
    (h_law_cell_at : Keeps P w K mg base 1 "_law_cell_at" ["script", "k"] (sp_law_cell_at K e))
    (h_law_comes : Keeps P w K mg base 1 "_law_comes" ["row", "fraction"] (sp_law_comes K e)) : Keeps P w K mg base 11 "_law_built" ["script"] (sp_law_built K e) := by
  obtain ⟨f, fd, F, mF⟩ := D
  obtain ⟨f_law_sum, fd_law_sum, G_law_sum, b_law_sum, m_law_sum, k_law_sum⟩ := h_law_sum
  obtain ⟨f_all_ways, fd_all_ways, G_all_ways, b_all_ways, m_all_ways, k_all_ways⟩ := h_all_ways
  obtain ⟨f_law_cell_at, fd_law_cell_at, G_law_cell_at, b_law_cell_at, m_law_cell_at, k_law_cell_at⟩ := h_law_cell_at
  obtain ⟨f_law_comes, fd_law_comes, G_law_comes, b_law_comes, m_law_comes, k_law_comes⟩ := h_law_comes
  refine ⟨f, fd, ?_, F.binds (ps := ["script"]) (fun _ _ _ _ _ _ us hl => match us, hl with | [_], _ => rfl), mF, F.kp⟩
  refine toX (F.ok sc_law_built (fun vs H Q E h => ?_) (fun cdv A outer s H vs Q E hr h => ?_))
  · obtain ⟨a, ns, rfl, hS, hlen, q⟩ := h
    rfl
  · obtain ⟨a, ns, rfl, hS, hlen, q⟩ := h
    refine ⟨_, (pss_cons (ps_set (i := 1) sc_law_built.nd rfl (Or.inl rfl) (pe_lst pa_nil))
      (pss_cons (ps_set (i := 2) sc_law_built.nd rfl (Or.inl rfl) pe_int)
      (pss_cons (ps_for PassesOwn.never rfl (pi_range1 (by rfl) B.range (pa_cons pe_int pa_nil)) (pg_name (i := 3) sc_law_built.nd rfl (Or.inl rfl)) (pss_cons (ps_set (i := 2) sc_law_built.nd rfl (Or.inl rfl) (pe_op op_add (pe_op op_add (pv 2) pe_int) (pe_op op_mod (pe_call G_law_cell_at (hr.mono (by decide)) (by rfl) m_law_cell_at k_law_cell_at b_law_cell_at .nil passL (pa_cons (pv 0) (pa_cons (pe_op op_add pe_int (pv 3)) pa_nil))) (pe_op op_add pe_int (pe_op op_mulW pe_int (pv 3))))))
      (pss_one (ps_expr (pe_bm PySem.F.plainAttrs_list PySem.F.slot_list_append PySem.F.type_list_append mt_append (pv 1) (pa_cons (pv 2) pa_nil))))))
      (pss_cons (ps_set (i := 4) sc_law_built.nd rfl (Or.inl rfl) (pe_call G_law_sum (hr.mono (by decide)) (by rfl) m_law_sum k_law_sum b_law_sum .nil passL (pa_cons (pv 1) pa_nil)))
      (pss_cons (ps_set (i := 5) sc_law_built.nd rfl (Or.inl rfl) (pe_call G_all_ways (hr.mono (by decide)) (by rfl) m_all_ways k_all_ways b_all_ways .nil passL (pa_cons (pv 4) (pa_cons pe_int (pa_cons pe_int pa_nil)))))
      (pss_cons (ps_if (pt_cmpR (op_notInD (room65 hr)) (pv 1) (pv 5) rfl) (pss_one (ps_ret pe_bl)) pss_nil)
      (pss_cons (ps_for PassesOwn.never rfl (pi_range1 (by rfl) B.range (pa_cons (pe_callB call_len_seq (by rfl) B.len (by decide +kernel) (pa_cons (pv 5) pa_nil)) pa_nil)) (pg_name (i := 3) sc_law_built.nd rfl (Or.inl rfl)) (pss_cons (ps_if (PW.pt (pw_or (pt_not (pt_val (pe_call G_law_comes (hr.mono (by decide)) (by rfl) m_law_comes k_law_comes b_law_comes .nil passL (pa_cons (pe_ix ix_list (pv 5) (pv 3) (fun _ _ => rfl)) (pa_cons (pv 4) pa_nil))))) (pw_or1 (pt_cmpR op_gt (pe_ix ix_list (pe_ix ix_list (pv 5) (pv 3) (fun _ _ => rfl)) (pe_un un_neg pe_int) (fun _ _ => rfl)) pe_int (nomark _))))) (pss_one (ps_ret pe_bl)) pss_nil)
      (pss_cons (ps_if (pt_cmpR (op_neD hr.units) (pe_ix ix_list (pv 5) (pv 3) (fun _ _ => rfl)) (pe_callB (cr_sortedSet rfl) (by rfl) B.sorted (by decide +kernel) (pa_cons (pe_callTy (cr_setL rfl) (by rfl) B.set (by decide +kernel) (pa_cons (pe_ix ix_list (pv 5) (pv 3) (fun _ _ => rfl)) pa_nil)) pa_nil)) (nomark _)) (pss_one (ps_ret pe_bl)) pss_nil)
      (pss_cons (ps_set (i := 6) sc_law_built.nd rfl (Or.inl rfl) (pe_tup (pa_cons (pe_callB call_len_seq (by rfl) B.len (by decide +kernel) (pa_cons (pe_ix ix_list (pv 5) (pv 3) (fun _ _ => rfl)) pa_nil)) (pa_cons (pe_ix ix_list (pv 5) (pv 3) (fun _ _ => rfl)) pa_nil))))
      (pss_one (ps_if (PW.pt (pw_and (pt_cmpR op_gt (pv 3) pe_int (nomark _)) (pw_and1 (pt_cmpR (op_geD hr.units) (pe_tup (pa_cons (pe_callB call_len_seq (by rfl) B.len (by decide +kernel) (pa_cons (pe_ix ix_list (pv 5) (pe_op op_sub (pv 3) pe_int) (fun _ _ => rfl)) pa_nil)) (pa_cons (pe_ix ix_list (pv 5) (pe_op op_sub (pv 3) pe_int) (fun _ _ => rfl)) pa_nil))) (pv 6) (nomark _))))) (pss_one (ps_ret pe_bl)) pss_nil))))))
      (pss_one (ps_ret pe_bl))))))))), ?_⟩
    refine ⟨Nat.zero_le _, fun R nR => ?_⟩
    have sR := same_new (o := .lst []) nR
    have eR : (upd H R (.lst [])) R = some (.lst []) := upd_same
    refine ⟨_, rfl, by decide, by decide, ?_⟩
    refine for_range (lo := 0) (n := 3) (fun i σ H' => Same H H' ∧ ∃ (xs : List Int) (l : Int) (v3 : Option V), σ = [some (.ref a), some (.ref R), some (.int l), v3, none, none, none] ∧ H' R = some (.lst (xs.map V.int)) ∧ xs.length = i ∧ (∀ x ∈ xs, 4 ≤ x ∧ x ≤ l) ∧ Ris xs ∧ 3 ≤ l ∧ l ≤ bndB i ∧ (sumS xs).2 ≤ prdB i)
      ⟨sR, [], 3, none, rfl, eR, rfl, (fun _ h => nomatch h), List.Pairwise.nil, by decide, by decide, by decide⟩ ?_ ?_
    · rintro i σ H1 hi ⟨s1, xs, l, v3, rfl, eR1, el, hx, rs, l3, lb, pb⟩
      have m0 := Int.emod_nonneg (cell ns (5 + i)) (b := 6 + 6 * (0 + (i : Int))) (by omega)
      have m1 := Int.emod_lt_of_pos (cell ns (5 + i)) (b := 6 + 6 * (0 + (i : Int))) (by omega)
      have zi : Sz 4 (0 + (i : Int)) := by
        show (0 + (i : Int)).natAbs < 16
        omega
      refine ⟨_, rfl, _, _, rfl, rfl, _, rfl, _, rfl, _, _, rfl, rfl, a, ns, 5 + i, cell_arg (by omega), s1.seq hS, hlen, _, rfl, _, _, rfl, rfl, (Sz.lit : Sz 3 6).cm zi, _, _, rfl, rfl, _, _, rfl, rfl, by show 0 < 6 + 6 * (0 + (i : Int)); omega, _, _, rfl, rfl, ?_⟩
      obtain ⟨l', el'⟩ : ∃ l' : Int, l + 1 + cell ns (5 + i) % (6 + 6 * (0 + (i : Int))) = l' := ⟨_, rfl⟩
      have k0 : l < l' := by omega
      have k1 : l' ≤ l + 6 + 6 * i := by omega
      show tSeq _ _ _ [some (.ref a), some (.ref R), some (.int (l + 1 + cell ns (5 + i) % (6 + 6 * (0 + (i : Int))))), some (.int (0 + (i : Int))), none, none, none] H1
      rw [el']
      refine ⟨_, rfl, .inl ⟨rfl, _, SqL.of eR1⟩, _, rfl, R, _, _, rfl, rfl, eR1, by rw [List.length_map, el]; exact szl_lt (by omega), ?_⟩
      have pos : Pos xs := fun x h => by have := hx x h; omega
      have pp := (sumS_pos xs pos).2.1
      refine ⟨same_mut s1 nR, xs ++ [l'], l', _, rfl, by rw [upd_same, List.map_append] <;> rfl, by rw [List.length_append, el] <;> rfl, fun x h => ?_, List.pairwise_append.mpr ⟨rs, List.pairwise_singleton _ _, fun x h y g => ?_⟩, by omega, ?_, ?_⟩
      · rcases List.mem_append.mp h with h | h
        · have := hx x h
          omega
        · rw [List.mem_singleton.mp h]
          omega
      · rw [List.mem_singleton.mp g]
        have := hx x h
        omega
      · obtain rfl | rfl | rfl : i = 0 ∨ i = 1 ∨ i = 2 := by omega
        · have : l ≤ 3 := lb
          show l' ≤ 9
          omega
        · have : l ≤ 9 := lb
          show l' ≤ 21
          omega
        · have : l ≤ 21 := lb
          show l' ≤ 39
          omega
      · rw [sumS_snoc]
        show (sumS xs).2 * l' ≤ prdB (i + 1)
        obtain rfl | rfl | rfl : i = 0 ∨ i = 1 ∨ i = 2 := by omega
        · have b1 : l ≤ 3 := lb
          have b2 : (sumS xs).2 ≤ 1 := pb
          have := Int.mul_le_mul b2 (by omega : l' ≤ 9) (by omega) (by decide)
          show (sumS xs).2 * l' ≤ 9
          omega
        · have b1 : l ≤ 9 := lb
          have b2 : (sumS xs).2 ≤ 9 := pb
          have := Int.mul_le_mul b2 (by omega : l' ≤ 21) (by omega) (by decide)
          show (sumS xs).2 * l' ≤ 189
          omega
        · have b1 : l ≤ 21 := lb
          have b2 : (sumS xs).2 ≤ 189 := pb
          have := Int.mul_le_mul b2 (by omega : l' ≤ 39) (by omega) (by decide)
          show (sumS xs).2 * l' ≤ 7371
          omega
    rintro σ H1 ⟨s1, xs, l, v3, rfl, eR1, el, hx, rs, l3, lb, pb⟩
    have lb : l ≤ 39 := lb
    have pb : (sumS xs).2 ≤ 7371 := pb
    have ok := row_ok (r := xs) (g := 60) (by decide) (by omega) fun x h => by have := hx x h; omega
    obtain ⟨a1, a2, a3⟩ := sumS_pos _ ok.pos
    have most := sum_most (s := 4) xs fun x h => by have := hx x h; omega
    rw [el] at most
    have below : (sumS xs).1 < (sumS xs).2 := by omega
    have one : 1 ≤ (sumS xs).1 := by
      obtain ⟨ys, y, rfl⟩ : ∃ ys y, xs = ys ++ [y] := ⟨xs.dropLast, xs.getLast (fun z => by rw [z] at el; cases el), (List.dropLast_concat_getLast _).symm⟩
      have yp : Pos ys := fun x h => ok.pos x (List.mem_append_left _ h)
      obtain ⟨c1, c2, _⟩ := sumS_pos _ yp
      have y1 := ok.pos y (List.mem_append_right _ List.mem_cons_self)
      have : 0 ≤ (sumS ys).1 * y := Int.mul_nonneg c1 (by omega)
      rw [sumS_snoc]
      show 1 ≤ (sumS ys).1 * y + (sumS ys).2
      omega
    refine ⟨_, rfl, R, xs, rfl, SqL.of eR1, ok.c, fun H2 f s2 nf ef => ?_⟩
    have ll : low (lowS xs).1 (lowS xs).2 = low (sumS xs).1 (sumS xs).2 := low_low a2
    have t1 : 1 ≤ (lowS xs).1 ∧ (lowS xs).1 < (lowS xs).2 ∧ (lowS xs).2 ≤ 7371 := by
      have c0 := low_cross (sumS xs).1 (sumS xs).2
      have p1 := low_bpos (t := (sumS xs).1) a2
      have p2 := low_tnn (t := (sumS xs).1) a2 a1
      have p3 := low_ble (t := (sumS xs).1) a2
      show 1 ≤ (low (sumS xs).1 (sumS xs).2).1 ∧ (low (sumS xs).1 (sumS xs).2).1 < (low (sumS xs).1 (sumS xs).2).2 ∧ (low (sumS xs).1 (sumS xs).2).2 ≤ 7371
      refine ⟨?_, ?_, by omega⟩
      · by_cases z : (low (sumS xs).1 (sumS xs).2).1 = 0
        · rw [z, Int.zero_mul] at c0
          have := Int.mul_pos (a := (sumS xs).1) (b := (low (sumS xs).1 (sumS xs).2).2) (by omega) (by omega)
          omega
        · omega
      · refine Int.lt_of_mul_lt_mul_right (a := (sumS xs).2) ?_ (by omega)
        rw [← c0, Int.mul_comm]
        exact Int.mul_lt_mul_of_pos_left below (by omega)
    obtain ⟨t1, t2, t3⟩ := t1
    have cm : Comes xs (lowS xs).1 (lowS xs).2 := (comes_low (r := xs) (T := (sumS xs).1) (B := (sumS xs).2) a2).mpr rfl
    have lb1 : 1 ≤ (lowS xs).2 := by omega
    obtain ⟨T, eT⟩ : ∃ T, (lowS xs).1 = T := ⟨_, rfl⟩
    obtain ⟨U, eU⟩ : ∃ U, (lowS xs).2 = U := ⟨_, rfl⟩
    rw [eT, eU] at ef cm ll
    rw [eT] at t1 t2
    rw [eU] at t2 t3 lb1
    have zt : Sz 1000 T := Sz.mono (a := 13) (by show T.natAbs < 8192; omega)
    have zu : Sz 1000 U := Sz.mono (a := 13) (by show U.natAbs < 8192; omega)
    have lp : low T U = (T, U) := by
      rw [ll, ← eT, ← eU]
      rfl
    refine ⟨_, rfl, f, T, U, 3, 60, rfl, SqT.of ef, by omega, by decide, by decide, by decide, fun z => absurd z (by omega), fun _ _ z => absurd z (by omega), fun _ _ H3 F ps s3 nF eF rp nps => ?_⟩
    rw [lp, all_rows (by omega) lb1] at rp
    have eR3 := s3 _ _ (s2 _ _ eR1)
    have ef3 := s3 _ _ ef
    have inn : xs ∈ (rowsF 60 3).filter fun r => decide (Comes r T U) := by
      refine List.mem_filter.mpr ⟨List.mem_flatMap.mpr ⟨2, by decide, ?_⟩, decide_eq_true cm⟩
      rw [lw_all]
      have := rw_in (r := xs) (l := 1) (g := 60) (fun x h => by have := hx x h; omega) rs
      rw [el] at this
      exact this
    have ord : ((rowsF 60 3).filter fun r => decide (Comes r T U)).Pairwise Ahead := List.Pairwise.filter _ (ahead_rows 60 3)
    have row : ∀ r ∈ (rowsF 60 3).filter fun r => decide (Comes r T U), Comes r T U ∧ r.length ≤ 4 ∧ r ≠ [] ∧ (∀ x ∈ r, 1 ≤ x ∧ x ≤ 60) ∧ Ris r := fun r hr => by
      obtain ⟨h, c⟩ := List.mem_filter.mp hr
      obtain ⟨k, hk, h⟩ := List.mem_flatMap.mp h
      have hk := List.mem_range.mp hk
      have h' := h
      rw [lw_all] at h'
      obtain ⟨b1, b2, b3⟩ := rw_mem h'
      exact ⟨of_decide_eq_true c, by omega, (fun z => by rw [z] at b1; cases b1), b2, b3⟩
    have fl : ((rowsF 60 3).filter fun r => decide (Comes r T U)).length ≤ 13179660 := Nat.le_trans (List.length_filter_le _ _) (rowsF_len (by decide) (by decide) (by decide))
    generalize ((rowsF 60 3).filter fun r => decide (Comes r T U)) = rows at *
    refine ⟨_, rfl, _, rfl, _, _, dp_ints (SqL.of eR3), rp.dpl eF, shaped_ints _, shaped_rows _, _, rfl, ?_⟩
    have any : ((rows.map fun r => PyData.list (r.map PyData.int)).any fun z => PyData.eqv z (.list (xs.map PyData.int))) = true := by
      refine List.any_eq_true.mpr ⟨_, List.mem_map.mpr ⟨xs, inn, rfl⟩, ?_⟩
      rw [eqv_ints]
      exact decide_eq_true rfl
    rw [any]
    show if (!true) = true then _ else _
    refine iteF ?_
    have pl := rp.len
    refine ⟨_, rfl, F, _, rfl, .inl (SqL.of eF), _, rfl, by omega, by rw [List.length_map]; omega, ?_⟩
    have eln : (((ps.map V.ref).length : Nat) : Int).toNat = rows.length := by
      rw [List.length_map, pl]
      omega
    rw [eln]
    refine for_range (lo := 0) (n := rows.length) (fun i σ H' => Same H3 H' ∧ ∃ v3 v6 : Option V, σ = [some (.ref a), some (.ref R), some (.int l), v3, some (.ref f), some (.ref F), v6]) ⟨Same.refl _, v3, none, rfl⟩ ?_ ?_
    · rintro i σ H4 hi ⟨s4, v3, v6, rfl⟩
      have er := List.getElem?_eq_getElem hi
      obtain ⟨r, err⟩ : ∃ r, rows[i] = r := ⟨_, rfl⟩
      rw [err] at er
      obtain ⟨p, ep, np, eph⟩ := rp.at er
      have ep4 := s4 _ _ eph
      have eF4 := s4 _ _ eF
      have ef4 := s4 _ _ ef3
      have aF : ((ps.map V.ref))[i]? = some (.ref p) := get_map ep
      have i0 : (0 : Int) + (i : Int) = (i : Int) := by omega
      obtain ⟨c1, c2, c3, c4, c5⟩ := row r (List.mem_of_getElem? er)
      have okr := row_ok (g := 60) (by decide) c2 c4
      refine ⟨_, rfl, _, rfl, F, _, _, _, rfl, rfl, SqL.of eF4, at_of (j := i) i0 aF, _, rfl, p, f, r, T, U, rfl, SqL.of ep4, SqT.of ef4, okr, zt, zu, _, rfl, ?_⟩
      rw [decide_eq_true c1]
      show if (!true) = true then _ else _
      refine iteF ?_
      have ll60 : lastI r ≤ 60 := by
        obtain ⟨l, x, rfl⟩ : ∃ l x, r = l ++ [x] := ⟨r.dropLast, r.getLast c3, (List.dropLast_concat_getLast c3).symm⟩
        rw [lastI_snoc]
        exact (c4 x (List.mem_append_right _ List.mem_cons_self)).2
      refine ⟨_, rfl, _, rfl, F, _, _, _, rfl, rfl, SqL.of eF4, at_of (j := i) i0 aF, _, rfl, p, _, _, _, rfl, rfl, SqL.of ep4, at_lastI c3, _, _, rfl, rfl, _, rfl, ?_⟩
      rw [decide_eq_false (by omega)]
      refine iteF ?_
      refine ⟨_, rfl, _, rfl, F, _, _, _, rfl, rfl, SqL.of eF4, at_of (j := i) i0 aF, _, rfl, _, rfl, F, _, _, _, rfl, rfl, SqL.of eF4, at_of (j := i) i0 aF, p, r, rfl, SqL.of ep4, by omega, fun s c ns' hc => ?_⟩
      refine ⟨s, _, _, rfl, upd_same, by omega, fun ys q2 pw mem hl nq => ?_⟩
      have s9 := (same_new (o := SetO w s (fun j => decide (j ∈ r)) c) ns').trans (same_new (o := .lst (ys.map V.int)) nq)
      have eq2 : (upd (upd H4 s (SetO w s (fun j => decide (j ∈ r)) c)) q2 (.lst (ys.map V.int))) q2 = some (.lst (ys.map V.int)) := upd_same
      have same : ys = r := ris_uniq pw c5 fun k => by rw [mem k]; simp
      refine ⟨_, _, dp_ints (SqL.of (s9 _ _ ep4)), dp_ints (SqL.of eq2), shaped_ints _, shaped_ints _, _, rfl, ?_⟩
      rw [eqv_ints, decide_eq_true same.symm]
      show if (!true) = true then _ else _
      refine iteF ?_
      have eF5 := s9 _ _ eF4
      have ep5 := s9 _ _ ep4
      refine ⟨_, rfl, _, rfl, F, _, _, _, rfl, rfl, SqL.of eF5, at_of (j := i) i0 aF, p, _, rfl, .inl (SqL.of ep5), _, rfl, _, rfl, F, _, _, _, rfl, rfl, SqL.of eF5, at_of (j := i) i0 aF, by show 2 ≤ sizeLine; decide, fun h nh => ?_⟩
      have sh := same_new (o := .tup [.int ((r.map V.int).length : Nat), .ref p]) nh
      have s6 := s4.trans (s9.trans sh)
      refine ⟨_, rfl, _, _, rfl, rfl, _, rfl, ite2 (fun z => ?_) (fun z => ?_)⟩
      · have z : (0 : Int) < 0 + (i : Int) := of_decide_eq_true z
        obtain ⟨j, rfl⟩ : ∃ j, i = j + 1 := ⟨i - 1, by omega⟩
        have hj : j < rows.length := by omega
        have et := List.getElem?_eq_getElem hj
        obtain ⟨t, ett⟩ : ∃ t, rows[j] = t := ⟨_, rfl⟩
        rw [ett] at et
        obtain ⟨p0, ep0, _, eph0⟩ := rp.at et
        have aF0 : ((ps.map V.ref))[j]? = some (.ref p0) := get_map ep0
        have ah : Ahead t r := by
          have := List.pairwise_iff_getElem.mp ord j (j + 1) hj hi (by omega)
          rw [ett, err] at this
          exact this
        have eF6 := sh _ _ eF5
        have eph6 := s6 _ _ eph0
        refine ⟨_, rfl, _, rfl, _, _, rfl, rfl, F, _, _, _, rfl, rfl, SqL.of eF6, at_of (j := j) (by omega) aF0, p0, _, rfl, .inl (SqL.of eph6), _, rfl, _, rfl, _, _, rfl, rfl, F, _, _, _, rfl, rfl, SqL.of eF6, at_of (j := j) (by omega) aF0, by show 2 ≤ sizeLine; decide, fun g ng => ?_⟩
        have sg := same_new (o := .tup [.int ((t.map V.int).length : Nat), .ref p0]) ng
        refine ⟨_, rfl, .tuple [.int (t.length : Int), .list (t.map PyData.int)], .tuple [.int (r.length : Int), .list (r.map PyData.int)], ?_, ?_, ?_, (fun z => nomatch z), ?_, _, rfl, ?_⟩
        · refine .tup (SqT.of upd_same) (.cons ?_ (.cons (dp_ints (SqL.of (sg _ _ eph6))) .nil))
          rw [show (t.map V.int).length = t.length from List.length_map _]
          exact .int _
        · refine .tup (SqT.of (sg _ _ upd_same)) (.cons ?_ (.cons (dp_ints (SqL.of (sg _ _ (sh _ _ ep5)))) .nil))
          rw [show (r.map V.int).length = r.length from List.length_map _]
          exact .int _
        · have := alike_ints t r
          simp [PySem.W.alike, PySem.W.alikeAll, this]
        · simp only [PyData.depth, PyData.depthAll, depth_ints]
          decide
        · rw [lt_ahead ah]
          show if (!true) = true then _ else _
          exact iteF ⟨s6.trans sg, _, _, rfl⟩
      · exact iteF ⟨s6, _, _, rfl⟩
    · rintro σ H4 ⟨s4, v3, v6, rfl⟩
      exact q _

abbrev s_law : Stmt := topS 28
abbrev N_law : List Str := ["script", "fraction", "most", "greatest", "times", "handed", "due", "found", "k", "row"]
theorem sc_law : FnScope N_law ["script"] (defScope s_law) := ⟨rfl, rfl, rfl, by decide +kernel, rfl, by decide +kernel, by decide +kernel⟩
theorem all_due {t b g : Int} (h1 : 1 ≤ t) (h2 : t < b) (m : Nat) : allF (low t b).1 (low t b).2 g m = (rowsF g m).filter fun r => decide (Comes r t b) := by
  have l1 := low_bpos (t := t) (by omega : 1 ≤ b)
  have l2 := low_tnn (t := t) (by omega : 1 ≤ b) (by omega)
  rw [all_rows l2 l1]
  exact List.filter_congr fun r _ => decide_eq_decide.mpr (comes_low (by omega))
/-- all but what stands at ps is kept -/
def SameP (ps : List Addr) (H H' : Hp) : Prop := ∀ b o, b ∉ ps → H b = some o → H' b = some o
theorem Rws.apart {H0 H1 H : Hp} {ps : List Addr} {rs : List (List Int)} (h : Rws H1 H ps rs) {b : Addr} {o : HO} (e : H1 b = some o) : b ∉ ps := h.not e
def sp_law (K : PySem.W.Frag) : Sp := fun vs H Q _ => ∃ (a : Addr) (ns : List Int), vs = [.ref a] ∧ SqL K H a (ns.map V.int) ∧ ns.length ≤ 63 ∧ ∀ H', Q (.bl true) H'
theorem ok_law {f : Addr} {fd : FuncData} (F : Fun K "law" "law" s_law f fd) (B : Bi mg) (Er : ErrOk K mg e)
    (h_law_small : Keeps P w K mg base 2 "_law_small" ["script", "first"] (sp_law_small K e))
    (h_all_ways : Keeps P w K mg base 10 "all_ways" ["fraction", "most", "greatest"] (sp_all_ways K e))
    (h_law_built : Keeps P w K mg base 11 "_law_built" ["script"] (sp_law_built K e))
    (h_law_cell_at : Keeps P w K mg base 1 "_law_cell_at" ["script", "k"] (sp_law_cell_at K e))
    (h_law_rows : Keeps P w K mg base 1 "_law_rows" ["most", "greatest"] (sp_law_rows K e))
    (h_law_comes : Keeps P w K mg base 1 "_law_comes" ["row", "fraction"] (sp_law_comes K e))
    (h_law_list : Keeps P w K mg base 2 "_law_list" ["found", "due"] (sp_law_list K e)) : FnOk P w K mg base CX0 12 f fd ["script"] (sp_law K) := by
  obtain ⟨f_law_small, fd_law_small, G_law_small, b_law_small, m_law_small, k_law_small⟩ := h_law_small
  obtain ⟨f_all_ways, fd_all_ways, G_all_ways, b_all_ways, m_all_ways, k_all_ways⟩ := h_all_ways
  obtain ⟨f_law_built, fd_law_built, G_law_built, b_law_built, m_law_built, k_law_built⟩ := h_law_built
  obtain ⟨f_law_cell_at, fd_law_cell_at, G_law_cell_at, b_law_cell_at, m_law_cell_at, k_law_cell_at⟩ := h_law_cell_at
  obtain ⟨f_law_rows, fd_law_rows, G_law_rows, b_law_rows, m_law_rows, k_law_rows⟩ := h_law_rows
  obtain ⟨f_law_comes, fd_law_comes, G_law_comes, b_law_comes, m_law_comes, k_law_comes⟩ := h_law_comes
  obtain ⟨f_law_list, fd_law_list, G_law_list, b_law_list, m_law_list, k_law_list⟩ := h_law_list
  refine F.ok sc_law (fun vs H Q E h => ?_) (fun cdv A outer s H vs Q E hr h => ?_)
  · obtain ⟨a, ns, rfl, _⟩ := h
    rfl
  · obtain ⟨a, ns, rfl, hS, hlen, kq⟩ := h
    refine ⟨_, (pss_cons (ps_set (i := 1) sc_law.nd rfl (Or.inr rfl) (pe_call G_law_small (hr.mono (by decide)) (by rfl) m_law_small k_law_small b_law_small .nil passL (pa_cons (pv 0) (pa_cons pe_int pa_nil))))
      (pss_cons (ps_set (i := 2) sc_law.nd rfl (Or.inl rfl) (pe_op op_add pe_int (pe_op op_mod (pe_call G_law_cell_at (hr.mono (by decide)) (by rfl) m_law_cell_at k_law_cell_at b_law_cell_at .nil passL (pa_cons (pv 0) (pa_cons pe_int pa_nil))) pe_int)))
      (pss_cons (ps_set (i := 3) sc_law.nd rfl (Or.inl rfl) (pe_op op_add pe_int (pe_op op_mod (pe_op op_fdivP (pe_call G_law_cell_at (hr.mono (by decide)) (by rfl) m_law_cell_at k_law_cell_at b_law_cell_at .nil passL (pa_cons (pv 0) (pa_cons pe_int pa_nil))) pe_int) pe_int)))
      (pss_cons (ps_if (pt_cmpR op_eq (pe_op op_mod (pe_call G_law_cell_at (hr.mono (by decide)) (by rfl) m_law_cell_at k_law_cell_at b_law_cell_at .nil passL (pa_cons (pv 0) (pa_cons pe_int pa_nil))) pe_int) pe_int (nomark _)) (pss_cons (ps_set (i := 2) sc_law.nd rfl (Or.inl rfl) (pe_op op_add pe_int (pe_op op_mod (pe_call G_law_cell_at (hr.mono (by decide)) (by rfl) m_law_cell_at k_law_cell_at b_law_cell_at .nil passL (pa_cons (pv 0) (pa_cons pe_int pa_nil))) pe_int)))
      (pss_one (ps_set (i := 3) sc_law.nd rfl (Or.inl rfl) (pe_op op_add pe_int (pe_op op_mod (pe_op op_fdivP (pe_call G_law_cell_at (hr.mono (by decide)) (by rfl) m_law_cell_at k_law_cell_at b_law_cell_at .nil passL (pa_cons (pv 0) (pa_cons pe_int pa_nil))) pe_int) pe_int))))) pss_nil)
      (pss_cons (ps_set (i := 4) sc_law.nd rfl (Or.inl rfl) (pe_op op_add pe_int (pe_op op_mod (pe_call G_law_cell_at (hr.mono (by decide)) (by rfl) m_law_cell_at k_law_cell_at b_law_cell_at .nil passL (pa_cons (pv 0) (pa_cons pe_int pa_nil))) pe_int)))
      (pss_cons (ps_set (i := 5) sc_law.nd rfl (Or.inl rfl) (pe_tup (pa_cons (pe_op op_mulW (pe_ix ix_tup (pv 1) pe_int (fun _ _ => rfl)) (pv 4)) (pa_cons (pe_op op_mulW (pe_ix ix_tup (pv 1) pe_int (fun _ _ => rfl)) (pv 4)) pa_nil))))
      (pss_cons (ps_setLc (i := 6) (own := [("row", 9)]) (g := gName 9) (tt := _) (by rfl) sc_law.nd rfl rfl (sw_true rfl rfl rfl (by decide +kernel)) (pi_list (pe_call G_law_rows (hr.mono (by decide)) (by rfl) m_law_rows k_law_rows b_law_rows .nil passL (pa_cons (pv 2) (pa_cons (pv 3) pa_nil)))) (blkOk_by (N := N_law) (sc := defScope s_law) (by decide +kernel)) (fun _ _ _ _ _ => pg_name (i := 9) sc_law.nd rfl (Or.inl rfl)) (fun _ _ _ _ _ => (pts_one (pt_val (pe_call G_law_comes (hr.mono (by decide)) (by rfl) m_law_comes k_law_comes b_law_comes .nil passL (pa_cons (pv 9) (pa_cons (pv 1) pa_nil)))))) (fun _ _ _ _ _ => (pv 9)))
      (pss_cons (ps_set (i := 7) sc_law.nd rfl (Or.inl rfl) (pe_call G_all_ways (hr.mono (by decide)) (by rfl) m_all_ways k_all_ways b_all_ways .nil passL (pa_cons (pv 5) (pa_cons (pv 2) (pa_cons (pv 3) pa_nil)))))
      (pss_cons (ps_if (PW.pt (pw_or (pt_not (pt_val (pe_callB call_isi (by rfl) B.isinstance (by decide +kernel) (pa_cons (pv 7) (pa_cons (pe_bltn (v := .ty "list") (by rfl) B.list (by decide +kernel) rfl) pa_nil))))) (pw_or1 (pt_cmpR op_ne (pe_callB call_len_seq (by rfl) B.len (by decide +kernel) (pa_cons (pv 7) pa_nil)) (pe_callB call_len_seq (by rfl) B.len (by decide +kernel) (pa_cons (pv 6) pa_nil)) (nomark _))))) (pss_one (ps_ret pe_bl)) pss_nil)
      (pss_cons (ps_for PassesOwn.never rfl (pi_range1 (by rfl) B.range (pa_cons (pe_callB call_len_seq (by rfl) B.len (by decide +kernel) (pa_cons (pv 6) pa_nil)) pa_nil)) (pg_name (i := 8) sc_law.nd rfl (Or.inl rfl)) (pss_one (ps_if (pt_not (pt_val (pe_call G_law_list (hr.mono (by decide)) (by rfl) m_law_list k_law_list b_law_list .nil passL (pa_cons (pe_ix ix_list (pv 7) (pv 8) (fun _ _ => rfl)) (pa_cons (pe_ix ix_list (pv 6) (pv 8) (fun _ _ => rfl)) pa_nil))))) (pss_one (ps_ret pe_bl)) pss_nil)))
      (pss_cons (ps_for PassesOwn.never rfl (pi_list (pv 7)) (pg_name (i := 9) sc_law.nd rfl (Or.inl rfl)) (pss_one (ps_expr (pe_bm PySem.F.plainAttrs_list PySem.F.slot_list_append PySem.F.type_list_append mt_append (pv 9) (pa_cons pe_int pa_nil)))))
      (pss_cons (ps_expr (pe_bm0 PySem.F.plainAttrs_list PySem.F.slot_list_clear PySem.F.type_list_clear mt_clear (pv 7)))
      (pss_one (ps_ret (pe_and (pe_cmpR (op_eqD hr.units) (pe_call G_all_ways (hr.mono (by decide)) (by rfl) m_all_ways k_all_ways b_all_ways .nil passL (pa_cons (pv 5) (pa_cons (pv 2) (pa_cons (pv 3) pa_nil)))) (pv 6) (nomark _)) (pe_one (pe_call G_law_built (hr.mono (by decide)) (by rfl) m_law_built k_law_built b_law_built .nil passL (pa_cons (pv 0) pa_nil)))))))))))))))))), ?_⟩
    refine ⟨_, rfl, a, ns, 0, rfl, hS, hlen, fun t b H1 f t1 tb b2 s1 ef => ?_⟩
    have hS1 := s1.seq hS
    refine ⟨_, rfl, a, ns, 2, rfl, hS1, hlen, _, _, rfl, rfl, by show (0 : Int) < 4; decide, _, _, rfl, rfl, ?_⟩
    refine ⟨_, rfl, a, ns, 3, rfl, hS1, hlen, _, _, rfl, rfl, (Sz.lit : Sz 4 8).cd (by decide), _, _, rfl, rfl, by show (0 : Int) < 11; decide, _, _, rfl, rfl, ?_⟩
    dsimp only
    refine cut (fun σ' H' => H' = H1 ∧ ∃ (m : Nat) (g : Int), m ≤ 4 ∧ 0 ≤ g ∧ g ≤ 60 ∧ σ' = [some (.ref a), some (.ref f), some (.int (m : Int)), some (.int g), none, none, none, none, none, none]) (fun R D k => ?_) ?_
    · refine ⟨_, rfl, a, ns, 3, rfl, hS1, hlen, _, _, rfl, rfl, by show (0 : Int) < 8; decide, rfl, _, rfl, ite2 (fun c => ?_) (fun c => ?_)⟩
      · refine ⟨_, rfl, a, ns, 2, rfl, hS1, hlen, _, _, rfl, rfl, by show (0 : Int) < 2; decide, _, _, rfl, rfl, ?_⟩
        refine ⟨_, rfl, a, ns, 3, rfl, hS1, hlen, _, _, rfl, rfl, (Sz.lit : Sz 4 8).cd (by decide), _, _, rfl, rfl, by show (0 : Int) < 40; decide, _, _, rfl, rfl, ?_⟩
        refine k _ _ ⟨rfl, (1 + cell ns 2 % 2).toNat, 1 + cell ns 3 / 8 % 40, by omega, by omega, by omega, ?_⟩
        rw [show (((1 + cell ns 2 % 2).toNat : Nat) : Int) = 1 + cell ns 2 % 2 by omega] <;> rfl
      · refine k _ _ ⟨rfl, (1 + cell ns 2 % 4).toNat, 1 + cell ns 3 / 8 % 11, by omega, by omega, by omega, ?_⟩
        rw [show (((1 + cell ns 2 % 4).toNat : Nat) : Int) = 1 + cell ns 2 % 4 by omega] <;> rfl
    rintro σ H' ⟨rfl, m, g, m4, hg, hg2, rfl⟩
    refine ⟨_, rfl, a, ns, 4, rfl, hS1, hlen, _, _, rfl, rfl, by show (0 : Int) < 3; decide, _, _, rfl, rfl, ?_⟩
    obtain ⟨ti, eti⟩ : ∃ ti : Int, 1 + cell ns 4 % 3 = ti := ⟨_, rfl⟩
    have ti1 : 1 ≤ ti ∧ ti ≤ 3 := by omega
    show tSeq _ _ _ [some (.ref a), some (.ref f), some (.int (m : Int)), some (.int g), some (.int (1 + cell ns 4 % 3)), none, none, none, none, none] H'
    rw [eti]
    have zt : Sz 10 t := by
      show t.natAbs < 1024
      omega
    have zb : Sz 10 b := by
      show b.natAbs < 1024
      omega
    have zi : Sz 10 ti := by
      show ti.natAbs < 1024
      omega
    refine ⟨_, rfl, f, _, 0, _, rfl, rfl, SqT.of ef, atI_nat (j := 0) rfl, _, rfl, _, _, rfl, rfl, zt.cm zi, _, rfl, f, _, 1, _, rfl, rfl, SqT.of ef, atI_nat (j := 1) rfl, _, rfl, _, _, rfl, rfl, zb.cm zi, by show 2 ≤ sizeLine; decide, fun h nh => ?_⟩
    have s2 := same_new (o := .tup [.int (t * ti), .int (b * ti)]) nh
    have eh : (upd H' h (.tup [.int (t * ti), .int (b * ti)])) h = some (.tup [.int (t * ti), .int (b * ti)]) := upd_same
    have ef2 := s2 _ _ ef
    dsimp only
    generalize (upd H' h (.tup [.int (t * ti), .int (b * ti)])) = H2 at s2 eh ef2
    have lo : low (t * ti) (b * ti) = low t b := low_scale (by omega)
    have h1 : 1 ≤ t * ti := Int.mul_pos (by omega) (by omega)
    have h2 : t * ti < b * ti := Int.mul_lt_mul_of_pos_right tb (by omega)
    have h3 : b * ti ≤ 24 * 3 := Int.mul_le_mul b2 ti1.2 (by omega) (by decide)
    refine ⟨_, rfl, _, rfl, m, g, rfl, m4, hg, hg2, fun H3 p ps s3 np ep rp nps => ?_⟩
    have ef3 := s3 _ _ ef2
    have eh3 := s3 _ _ eh
    refine ⟨p, rfl, ⟨_, SqL.of ep⟩, fun D nD => ?_⟩
    refine lc_list (K := K) (a := p) (xs := ps.map V.ref) (fun i H' => Same H3 H' ∧ ∃ qs : List Addr, qs.length ≤ i ∧ H' D = some (.lst (qs.map V.ref)) ∧ D ∉ qs ∧ Rws H2 H' qs (((rowsF g m).take i).filter fun r => decide (Comes r t b))) ⟨same_new nD, [], Nat.le_refl 0, upd_same, by simp, Rws.nil⟩ (fun i H' _ h => SqL.of (h.1 _ _ ep)) ?_ ?_
    · rintro i y H4 hy ⟨s4, qs, ql, eD, Dq, rq⟩
      obtain ⟨w, ew, rfl⟩ := of_get_map hy
      obtain ⟨r, er, nw, hw⟩ := rp.get ew
      have hi := lt_of_get ew
      have hw3 := s4 _ _ hw
      have rm := List.mem_of_getElem? er
      obtain ⟨k, hk, rm⟩ := List.mem_flatMap.mp rm
      obtain ⟨ra, rb⟩ := lw_row rm
      have hk := List.mem_range.mp hk
      have ok := row_ok (g := g) (by omega) (by omega : r.length ≤ 4) rb
      have pl := rowsF_len (g := g) hg hg2 (m := m) m4
      rw [← rp.len] at pl
      refine ⟨rfl, _, rfl, _, rfl, w, f, r, t, b, rfl, SqL.of hw3, SqT.of (s4 _ _ ef3), ok, zt.mono, zb.mono, _, rfl, ite2 (fun c => ?_) (fun c => ?_)⟩
      · have c := of_decide_eq_true c
        have wD : w ≠ D := ne_of_none hw nD
        refine ⟨_, rfl, _, eD, ?_, same_mut s4 nD, qs ++ [w], ?_, ?_, ?_, ?_⟩
        · rw [List.length_map]
          exact szl_lt (by omega)
        · rw [List.length_append, List.length_singleton]
          omega
        · rw [upd_same, List.map_append] <;> rfl
        · intro z
          rcases List.mem_append.mp z with z | z
          · exact Dq z
          · exact wD (List.mem_singleton.mp z).symm
        · rw [take_snoc er, fil_yes (q := fun r => Comes r t b) c]
          refine (rq.sameB SameB.put Dq).append (Rws.one nw ?_)
          rw [upd_ne wD]
          exact hw3
      · have c : ¬ Comes r t b := fun z => c (decide_eq_true z)
        refine ⟨s4, qs, by omega, eD, Dq, ?_⟩
        rw [take_snoc er, fil_no (q := fun r => Comes r t b) c]
        exact rq
    · rintro H4 ⟨s4, qs, ql, eD, Dq, rq⟩
      rw [List.length_map, rp.len, List.take_length, ← all_due t1 tb] at rq
      have al : ∀ r ∈ allF (low t b).1 (low t b).2 g m, r.length ≤ 4 := fun r hr => by
        rw [all_due t1 tb] at hr
        obtain ⟨hr, _⟩ := List.mem_filter.mp hr
        obtain ⟨k, hk, hr⟩ := List.mem_flatMap.mp hr
        have := (lw_row hr).1
        have := List.mem_range.mp hk
        omega
      have an : (allF (low t b).1 (low t b).2 g m).length ≤ 13179660 := by
        rw [all_due t1 tb]
        exact Nat.le_trans (List.length_filter_le _ _) (rowsF_len hg hg2 m4)
      have eh4 := s4 _ _ eh3
      have s14 := s2.trans (s3.trans s4)
      have hS4 := s14.seq hS1
      refine ⟨_, rfl, _, rfl, _, rfl, h, t * ti, b * ti, m, g, rfl, SqT.of eh4, by omega, m4, hg, hg2, fun z => absurd z (by omega), fun _ _ z => absurd z (by omega), fun _ _ H5 F fs s5 nF eF rf nfs => ?_⟩
      rw [lo] at rf
      have eD5 := s5 _ _ eD
      have eh5 := s5 _ _ eh4
      have rq5 := rq.same s5
      have fl := rf.len
      have ql := rq.len
      refine ⟨_, rfl, _, _, _, _, true, rfl, .ty "list", ty_list (SqL.of eF), kit_ty (by decide +kernel), true, rfl, ?_⟩
      show if (!true) = true then _ else _
      refine iteF ?_
      refine ⟨_, rfl, F, _, rfl, .inl (SqL.of eF), _, rfl, D, _, rfl, .inl (SqL.of eD5), rfl, _, rfl, ?_⟩
      rw [show decide (V.int (((fs.map V.ref).length : Nat) : Int) = V.int (((qs.map V.ref).length : Nat) : Int)) = true from decide_eq_true (by rw [List.length_map, List.length_map, fl, ql])]
      show if (!true) = true then _ else _
      refine iteF ?_
      have v10 : ∀ {v : Option V}, v = v := rfl
      refine ⟨_, rfl, D, _, rfl, .inl (SqL.of eD5), _, rfl, by omega, by rw [List.length_map]; omega, ?_⟩
      have eln : (((qs.map V.ref).length : Nat) : Int).toNat = (allF (low t b).1 (low t b).2 g m).length := by
        rw [List.length_map, ql]
        omega
      rw [eln]
      refine for_range (lo := 0) (n := (allF (low t b).1 (low t b).2 g m).length) (fun i σ H' => H' = H5 ∧ ∃ v : Option V, σ = [some (.ref a), some (.ref f), some (.int (m : Int)), some (.int g), some (.int ti), some (.ref h), some (.ref D), some (.ref F), v, none]) ⟨rfl, none, rfl⟩ ?_ ?_
      · rintro i σ H' hi ⟨rfl, v, rfl⟩
        have er := List.getElem?_eq_getElem hi
        obtain ⟨pf, epf, _, ef5⟩ := rf.at er
        obtain ⟨pq, epq, _, eq5⟩ := rq5.at er
        have := al _ (List.getElem_mem hi)
        have i0 : (0 : Int) + (i : Int) = (i : Int) := by omega
        refine ⟨_, rfl, _, rfl, F, _, _, _, rfl, rfl, SqL.of eF, at_of (j := i) i0 (get_map epf), _, rfl, _, rfl, D, _, _, _, rfl, rfl, SqL.of eD5, at_of (j := i) i0 (get_map epq), pf, pq, _, rfl, SqL.of ef5, SqL.of eq5, by omega, _, rfl, ?_⟩
        show if (!true) = true then _ else _
        exact iteF ⟨rfl, _, rfl⟩
      · rintro σ H' ⟨rfl, v, rfl⟩
        refine ⟨_, rfl, F, rfl, ⟨_, SqL.of eF⟩, for_list (K := K) (a := F) (xs := fs.map V.ref) (fun i σ H6 => SameP fs H' H6 ∧ (∀ p ∈ fs, ∃ xs : List V, H6 p = some (.lst xs) ∧ xs.length ≤ 4 + i) ∧ ∃ v w : Option V, σ = [some (.ref a), some (.ref f), some (.int (m : Int)), some (.int g), some (.int ti), some (.ref h), some (.ref D), some (.ref F), v, w])
          ⟨fun _ _ _ e => e, fun p hp => ?_, v, none, rfl⟩ (fun i σ H6 _ z => SqL.of (z.1 _ _ nfs eF)) ?_ ?_⟩
        · obtain ⟨_, r, hr, e⟩ := rf.mem hp
          exact ⟨_, e, by rw [List.length_map]; exact al r hr⟩
        · rintro i y σ H6 hy ⟨s6, lens, v, w, rfl⟩
          obtain ⟨p, ep, rfl⟩ := of_get_map hy
          have hp := List.mem_of_getElem? ep
          have hi := lt_of_get ep
          obtain ⟨xs, ex, xl⟩ := lens p hp
          refine ⟨_, rfl, .inl ⟨rfl, _, SqL.of ex⟩, p, _, _, rfl, rfl, ex, szl_lt (by omega), fun b' o n e => ?_, fun p' hp' => ?_, v, _, rfl⟩
          · rw [upd_ne (fun z : b' = p => n (by rw [z]; exact hp))]
            exact s6 b' o n e
          · by_cases z : p' = p
            · rw [z]
              exact ⟨_, upd_same, by rw [List.length_append, List.length_singleton]; omega⟩
            · obtain ⟨xs', ex', xl'⟩ := lens p' hp'
              exact ⟨xs', by rw [upd_ne z]; exact ex', by omega⟩
        · rintro σ H6 ⟨s6, lens, v, w, rfl⟩
          have eF6 := s6 _ _ nfs eF
          refine ⟨_, rfl, .inl ⟨rfl, _, SqL.of eF6⟩, F, _, rfl, rfl, eF6, ?_⟩
          have kp : ∀ {b : Addr} {o : HO}, H4 b = some o → (upd H6 F (.lst [])) b = some o := fun {b o} e => by
            rw [upd_ne (ne_of_none e nF)]
            exact s6 b o (rf.not e) (s5 b o e)
          have s46 : Same H4 (upd H6 F (.lst [])) := fun b o e => kp e
          have eD7 := kp eD
          have eh7 := kp eh4
          have rq7 := rq.same s46
          generalize upd H6 F (.lst []) = H7 at eD7 eh7 rq7 s46
          refine ⟨_, rfl, _, rfl, _, rfl, h, t * ti, b * ti, m, g, rfl, SqT.of eh7, by omega, m4, hg, hg2, fun z => absurd z (by omega), fun _ _ z => absurd z (by omega), fun _ _ H8 G gs s8 nG eG rg ngs => ?_⟩
          rw [lo] at rg
          refine ⟨_, rfl, _, _, rg.dpl eG, (rq7.same s8).dpl (s8 _ _ eD7), shaped_rows _, shaped_rows _, ?_⟩
          rw [eqv_rows, decide_eq_true rfl]
          refine ⟨_, rfl, iteT ?_⟩
          exact ⟨_, rfl, a, ns, rfl, (s14.trans (s46.trans s8)).seq hS1, hlen, fun H9 => kq H9⟩

end

theorem all_mk {l : PySem.W.OpenLaw} {w : World} {K : PySem.W.Frag} {h : Heap} {mg : Str → Option Value} {fa : Addr} (X : K.In h) (G : h.Ns mainGlobals mg) (hfa : mg "law" = some (.ref fa))
    {f0 : Addr} {od0 an0 : Option Addr} {sl0 : Array (Option Value)} {oc0 kV0 dc0 pm0 cd0 ct0 : Value}
    {f1 : Addr} {od1 an1 : Option Addr} {sl1 : Array (Option Value)} {oc1 kV1 dc1 pm1 cd1 ct1 : Value}
    {f2 : Addr} {od2 an2 : Option Addr} {sl2 : Array (Option Value)} {oc2 kV2 dc2 pm2 cd2 ct2 : Value}
    {f3 : Addr} {od3 an3 : Option Addr} {sl3 : Array (Option Value)} {oc3 kV3 dc3 pm3 cd3 ct3 : Value}
    {f4 : Addr} {od4 an4 : Option Addr} {sl4 : Array (Option Value)} {oc4 kV4 dc4 pm4 cd4 ct4 : Value}
    {f5 : Addr} {od5 an5 : Option Addr} {sl5 : Array (Option Value)} {oc5 kV5 dc5 pm5 cd5 ct5 : Value}
    {f6 : Addr} {od6 an6 : Option Addr} {sl6 : Array (Option Value)} {oc6 kV6 dc6 pm6 cd6 ct6 : Value}
    {f7 : Addr} {od7 an7 : Option Addr} {sl7 : Array (Option Value)} {oc7 kV7 dc7 pm7 cd7 ct7 : Value}
    {f8 : Addr} {od8 an8 : Option Addr} {sl8 : Array (Option Value)} {oc8 kV8 dc8 pm8 cd8 ct8 : Value}
    {f9 : Addr} {od9 an9 : Option Addr} {sl9 : Array (Option Value)} {oc9 kV9 dc9 pm9 cd9 ct9 : Value}
    {f10 : Addr} {od10 an10 : Option Addr} {sl10 : Array (Option Value)} {oc10 kV10 dc10 pm10 cd10 ct10 : Value}
    {f11 : Addr} {od11 an11 : Option Addr} {sl11 : Array (Option Value)} {oc11 kV11 dc11 pm11 cd11 ct11 : Value}
    {f12 : Addr} {od12 an12 : Option Addr} {sl12 : Array (Option Value)} {oc12 kV12 dc12 pm12 cd12 ct12 : Value}
    {f13 : Addr} {od13 an13 : Option Addr} {sl13 : Array (Option Value)} {oc13 kV13 dc13 pm13 cd13 ct13 : Value}
    {f14 : Addr} {od14 an14 : Option Addr} {sl14 : Array (Option Value)} {oc14 kV14 dc14 pm14 cd14 ct14 : Value}
    {f15 : Addr} {od15 an15 : Option Addr} {sl15 : Array (Option Value)} {oc15 kV15 dc15 pm15 cd15 ct15 : Value}
    {f16 : Addr} {od16 an16 : Option Addr} {sl16 : Array (Option Value)} {oc16 kV16 dc16 pm16 cd16 ct16 : Value}
    {f17 : Addr} {od17 an17 : Option Addr} {sl17 : Array (Option Value)} {oc17 kV17 dc17 pm17 cd17 ct17 : Value}
    {f18 : Addr} {od18 an18 : Option Addr} {sl18 : Array (Option Value)} {oc18 kV18 dc18 pm18 cd18 ct18 : Value}
    {f19 : Addr} {od19 an19 : Option Addr} {sl19 : Array (Option Value)} {oc19 kV19 dc19 pm19 cd19 ct19 : Value}
    {CShareError : Addr}
    {CNoFraction : Addr}
    {CNotBelow : Addr}
    (a0 : PySem.W.nsIn K mainGlobals "see" = some (some (.ref f0)))
    (l0 : K.lookup f0 = some ⟨oc0, od0, .func (PySem.W.fnOf "see" "see" (defArgs s_see) (defBody s_see) (defScope s_see) .none kV0 dc0 pm0 an0 cd0 ct0), sl0⟩)
    (c0 : PySem.W.codeIn K cd0 "see" = true)
    (k0 : PySem.W.keepIn K (.ref f0) = true)
    (a1 : PySem.W.nsIn K mainGlobals "common" = some (some (.ref f1)))
    (l1 : K.lookup f1 = some ⟨oc1, od1, .func (PySem.W.fnOf "common" "common" (defArgs s_common) (defBody s_common) (defScope s_common) .none kV1 dc1 pm1 an1 cd1 ct1), sl1⟩)
    (c1 : PySem.W.codeIn K cd1 "common" = true)
    (k1 : PySem.W.keepIn K (.ref f1) = true)
    (a2 : PySem.W.nsIn K mainGlobals "lowest" = some (some (.ref f2)))
    (l2 : K.lookup f2 = some ⟨oc2, od2, .func (PySem.W.fnOf "lowest" "lowest" (defArgs s_lowest) (defBody s_lowest) (defScope s_lowest) .none kV2 dc2 pm2 an2 cd2 ct2), sl2⟩)
    (c2 : PySem.W.codeIn K cd2 "lowest" = true)
    (k2 : PySem.W.keepIn K (.ref f2) = true)
    (a3 : PySem.W.nsIn K mainGlobals "less" = some (some (.ref f3)))
    (l3 : K.lookup f3 = some ⟨oc3, od3, .func (PySem.W.fnOf "less" "less" (defArgs s_less) (defBody s_less) (defScope s_less) .none kV3 dc3 pm3 an3 cd3 ct3), sl3⟩)
    (c3 : PySem.W.codeIn K cd3 "less" = true)
    (k3 : PySem.W.keepIn K (.ref f3) = true)
    (a4 : PySem.W.nsIn K mainGlobals "taken" = some (some (.ref f4)))
    (l4 : K.lookup f4 = some ⟨oc4, od4, .func (PySem.W.fnOf "taken" "taken" (defArgs s_taken) (defBody s_taken) (defScope s_taken) .none kV4 dc4 pm4 an4 cd4 ct4), sl4⟩)
    (c4 : PySem.W.codeIn K cd4 "taken" = true)
    (k4 : PySem.W.keepIn K (.ref f4) = true)
    (a5 : PySem.W.nsIn K mainGlobals "see_below" = some (some (.ref f5)))
    (l5 : K.lookup f5 = some ⟨oc5, od5, .func (PySem.W.fnOf "see_below" "see_below" (defArgs s_see_below) (defBody s_see_below) (defScope s_see_below) .none kV5 dc5 pm5 an5 cd5 ct5), sl5⟩)
    (c5 : PySem.W.codeIn K cd5 "see_below" = true)
    (k5 : PySem.W.keepIn K (.ref f5) = true)
    (a6 : PySem.W.nsIn K mainGlobals "up" = some (some (.ref f6)))
    (l6 : K.lookup f6 = some ⟨oc6, od6, .func (PySem.W.fnOf "up" "up" (defArgs s_up) (defBody s_up) (defScope s_up) .none kV6 dc6 pm6 an6 cd6 ct6), sl6⟩)
    (c6 : PySem.W.codeIn K cd6 "up" = true)
    (k6 : PySem.W.keepIn K (.ref f6) = true)
    (a7 : PySem.W.nsIn K mainGlobals "ways_of" = some (some (.ref f7)))
    (l7 : K.lookup f7 = some ⟨oc7, od7, .func (PySem.W.fnOf "ways_of" "ways_of" (defArgs s_ways_of) (defBody s_ways_of) (defScope s_ways_of) .none kV7 dc7 pm7 an7 cd7 ct7), sl7⟩)
    (c7 : PySem.W.codeIn K cd7 "ways_of" = true)
    (k7 : PySem.W.keepIn K (.ref f7) = true)
    (a8 : PySem.W.nsIn K mainGlobals "all_ways" = some (some (.ref f8)))
    (l8 : K.lookup f8 = some ⟨oc8, od8, .func (PySem.W.fnOf "all_ways" "all_ways" (defArgs s_all_ways) (defBody s_all_ways) (defScope s_all_ways) .none kV8 dc8 pm8 an8 cd8 ct8), sl8⟩)
    (c8 : PySem.W.codeIn K cd8 "all_ways" = true)
    (k8 : PySem.W.keepIn K (.ref f8) = true)
    (a9 : PySem.W.nsIn K mainGlobals "_law_cell_at" = some (some (.ref f9)))
    (l9 : K.lookup f9 = some ⟨oc9, od9, .func (PySem.W.fnOf "_law_cell_at" "_law_cell_at" (defArgs s_law_cell_at) (defBody s_law_cell_at) (defScope s_law_cell_at) .none kV9 dc9 pm9 an9 cd9 ct9), sl9⟩)
    (c9 : PySem.W.codeIn K cd9 "_law_cell_at" = true)
    (k9 : PySem.W.keepIn K (.ref f9) = true)
    (a10 : PySem.W.nsIn K mainGlobals "_law_whole" = some (some (.ref f10)))
    (l10 : K.lookup f10 = some ⟨oc10, od10, .func (PySem.W.fnOf "_law_whole" "_law_whole" (defArgs s_law_whole) (defBody s_law_whole) (defScope s_law_whole) .none kV10 dc10 pm10 an10 cd10 ct10), sl10⟩)
    (c10 : PySem.W.codeIn K cd10 "_law_whole" = true)
    (k10 : PySem.W.keepIn K (.ref f10) = true)
    (a11 : PySem.W.nsIn K mainGlobals "_law_common" = some (some (.ref f11)))
    (l11 : K.lookup f11 = some ⟨oc11, od11, .func (PySem.W.fnOf "_law_common" "_law_common" (defArgs s_law_common) (defBody s_law_common) (defScope s_law_common) .none kV11 dc11 pm11 an11 cd11 ct11), sl11⟩)
    (c11 : PySem.W.codeIn K cd11 "_law_common" = true)
    (k11 : PySem.W.keepIn K (.ref f11) = true)
    (a12 : PySem.W.nsIn K mainGlobals "_law_lowest" = some (some (.ref f12)))
    (l12 : K.lookup f12 = some ⟨oc12, od12, .func (PySem.W.fnOf "_law_lowest" "_law_lowest" (defArgs s_law_lowest) (defBody s_law_lowest) (defScope s_law_lowest) .none kV12 dc12 pm12 an12 cd12 ct12), sl12⟩)
    (c12 : PySem.W.codeIn K cd12 "_law_lowest" = true)
    (k12 : PySem.W.keepIn K (.ref f12) = true)
    (a13 : PySem.W.nsIn K mainGlobals "_law_sum" = some (some (.ref f13)))
    (l13 : K.lookup f13 = some ⟨oc13, od13, .func (PySem.W.fnOf "_law_sum" "_law_sum" (defArgs s_law_sum) (defBody s_law_sum) (defScope s_law_sum) .none kV13 dc13 pm13 an13 cd13 ct13), sl13⟩)
    (c13 : PySem.W.codeIn K cd13 "_law_sum" = true)
    (k13 : PySem.W.keepIn K (.ref f13) = true)
    (a14 : PySem.W.nsIn K mainGlobals "_law_list" = some (some (.ref f14)))
    (l14 : K.lookup f14 = some ⟨oc14, od14, .func (PySem.W.fnOf "_law_list" "_law_list" (defArgs s_law_list) (defBody s_law_list) (defScope s_law_list) .none kV14 dc14 pm14 an14 cd14 ct14), sl14⟩)
    (c14 : PySem.W.codeIn K cd14 "_law_list" = true)
    (k14 : PySem.W.keepIn K (.ref f14) = true)
    (a15 : PySem.W.nsIn K mainGlobals "_law_rows" = some (some (.ref f15)))
    (l15 : K.lookup f15 = some ⟨oc15, od15, .func (PySem.W.fnOf "_law_rows" "_law_rows" (defArgs s_law_rows) (defBody s_law_rows) (defScope s_law_rows) .none kV15 dc15 pm15 an15 cd15 ct15), sl15⟩)
    (c15 : PySem.W.codeIn K cd15 "_law_rows" = true)
    (k15 : PySem.W.keepIn K (.ref f15) = true)
    (a16 : PySem.W.nsIn K mainGlobals "_law_comes" = some (some (.ref f16)))
    (l16 : K.lookup f16 = some ⟨oc16, od16, .func (PySem.W.fnOf "_law_comes" "_law_comes" (defArgs s_law_comes) (defBody s_law_comes) (defScope s_law_comes) .none kV16 dc16 pm16 an16 cd16 ct16), sl16⟩)
    (c16 : PySem.W.codeIn K cd16 "_law_comes" = true)
    (k16 : PySem.W.keepIn K (.ref f16) = true)
    (a17 : PySem.W.nsIn K mainGlobals "_law_small" = some (some (.ref f17)))
    (l17 : K.lookup f17 = some ⟨oc17, od17, .func (PySem.W.fnOf "_law_small" "_law_small" (defArgs s_law_small) (defBody s_law_small) (defScope s_law_small) .none kV17 dc17 pm17 an17 cd17 ct17), sl17⟩)
    (c17 : PySem.W.codeIn K cd17 "_law_small" = true)
    (k17 : PySem.W.keepIn K (.ref f17) = true)
    (a18 : PySem.W.nsIn K mainGlobals "_law_built" = some (some (.ref f18)))
    (l18 : K.lookup f18 = some ⟨oc18, od18, .func (PySem.W.fnOf "_law_built" "_law_built" (defArgs s_law_built) (defBody s_law_built) (defScope s_law_built) .none kV18 dc18 pm18 an18 cd18 ct18), sl18⟩)
    (c18 : PySem.W.codeIn K cd18 "_law_built" = true)
    (k18 : PySem.W.keepIn K (.ref f18) = true)
    (a19 : PySem.W.nsIn K mainGlobals "law" = some (some (.ref f19)))
    (l19 : K.lookup f19 = some ⟨oc19, od19, .func (PySem.W.fnOf "law" "law" (defArgs s_law) (defBody s_law) (defScope s_law) .none kV19 dc19 pm19 an19 cd19 ct19), sl19⟩)
    (c19 : PySem.W.codeIn K cd19 "law" = true)
    (k19 : PySem.W.keepIn K (.ref f19) = true)
    (z0 : PySem.W.nsIn K mainGlobals "len" = some none)
    (z1 : PySem.W.nsIn K mainGlobals "range" = some none)
    (z2 : PySem.W.nsIn K mainGlobals "min" = some none)
    (z3 : PySem.W.nsIn K mainGlobals "max" = some none)
    (z4 : PySem.W.nsIn K mainGlobals "sum" = some none)
    (z5 : PySem.W.nsIn K mainGlobals "sorted" = some none)
    (z6 : PySem.W.nsIn K mainGlobals "set" = some none)
    (z7 : PySem.W.nsIn K mainGlobals "dict" = some none)
    (z8 : PySem.W.nsIn K mainGlobals "list" = some none)
    (z9 : PySem.W.nsIn K mainGlobals "str" = some none)
    (z10 : PySem.W.nsIn K mainGlobals "int" = some none)
    (z11 : PySem.W.nsIn K mainGlobals "isinstance" = some none)
    (z12 : PySem.W.nsIn K mainGlobals "bool" = some none)
    (z13 : PySem.W.nsIn K mainGlobals "tuple" = some none)
    (z14 : PySem.W.nsIn K mainGlobals "ValueError" = some none)
    (nShareError : PySem.W.nsIn K mainGlobals "ShareError" = some (some (.ref CShareError)))
    (e0ShareError : PySem.W.excIn K CShareError veT "ValueError.__new__" = true)
    (e1ShareError : PySem.W.keepIn K (.ref CShareError) = true)
    (e2ShareError : PySem.W.subIn K (.ref CShareError) (.type "BaseException") = some true)
    (e3ShareError : PySem.W.typeIn K (.ref CShareError) = some (.type "type"))
    (nNoFraction : PySem.W.nsIn K mainGlobals "NoFraction" = some (some (.ref CNoFraction)))
    (e0NoFraction : PySem.W.excIn K CNoFraction veT "ValueError.__new__" = true)
    (e1NoFraction : PySem.W.keepIn K (.ref CNoFraction) = true)
    (e2NoFraction : PySem.W.subIn K (.ref CNoFraction) (.type "BaseException") = some true)
    (e3NoFraction : PySem.W.typeIn K (.ref CNoFraction) = some (.type "type"))
    (nNotBelow : PySem.W.nsIn K mainGlobals "NotBelow" = some (some (.ref CNotBelow)))
    (e0NotBelow : PySem.W.excIn K CNotBelow veT "ValueError.__new__" = true)
    (e1NotBelow : PySem.W.keepIn K (.ref CNotBelow) = true)
    (e2NotBelow : PySem.W.subIn K (.ref CNotBelow) (.type "BaseException") = some true)
    (e3NotBelow : PySem.W.typeIn K (.ref CNotBelow) = some (.type "type"))
    : ∃ fd : FuncData, (∀ (s : Shared) (v : Value), BindsTo s fd ⟨[v], []⟩ [("script", v)]) ∧ ∀ base : Heap, K.In base → base.Ns mainGlobals mg → FnOk l.prog w K mg base CX0 12 fa fd ["script"] (sp_law K) := by
  have ef := hfa.symm.trans (PySem.W.mg_of X G a19)
  cases ef
  have B : Bi mg := ⟨PySem.W.mg_none_of X G z0, PySem.W.mg_none_of X G z1, PySem.W.mg_none_of X G z2, PySem.W.mg_none_of X G z3, PySem.W.mg_none_of X G z4, PySem.W.mg_none_of X G z5, PySem.W.mg_none_of X G z6, PySem.W.mg_none_of X G z7, PySem.W.mg_none_of X G z8, PySem.W.mg_none_of X G z9, PySem.W.mg_none_of X G z10, PySem.W.mg_none_of X G z11, PySem.W.mg_none_of X G z12, PySem.W.mg_none_of X G z13, PySem.W.mg_none_of X G z14⟩
  have Er : ErrOk K mg ⟨CShareError, CNoFraction, CNotBelow, 0, 0, 0⟩ := ⟨⟨PySem.W.mg_of X G nShareError, e0ShareError, e1ShareError, e2ShareError, e3ShareError⟩, ⟨PySem.W.mg_of X G nNoFraction, e0NoFraction, e1NoFraction, e2NoFraction, e3NoFraction⟩, ⟨PySem.W.mg_of X G nNotBelow, e0NotBelow, e1NotBelow, e2NotBelow, e3NotBelow⟩⟩
  have S_see : Stands K mg "see" s_see := ⟨_, _, fun_mk (st := s_see) l0 c0 k0, PySem.W.mg_of X G a0⟩
  have S_common : Stands K mg "common" s_common := ⟨_, _, fun_mk (st := s_common) l1 c1 k1, PySem.W.mg_of X G a1⟩
  have S_lowest : Stands K mg "lowest" s_lowest := ⟨_, _, fun_mk (st := s_lowest) l2 c2 k2, PySem.W.mg_of X G a2⟩
  have S_less : Stands K mg "less" s_less := ⟨_, _, fun_mk (st := s_less) l3 c3 k3, PySem.W.mg_of X G a3⟩
  have S_taken : Stands K mg "taken" s_taken := ⟨_, _, fun_mk (st := s_taken) l4 c4 k4, PySem.W.mg_of X G a4⟩
  have S_see_below : Stands K mg "see_below" s_see_below := ⟨_, _, fun_mk (st := s_see_below) l5 c5 k5, PySem.W.mg_of X G a5⟩
  have S_up : Stands K mg "up" s_up := ⟨_, _, fun_mk (st := s_up) l6 c6 k6, PySem.W.mg_of X G a6⟩
  have S_ways_of : Stands K mg "ways_of" s_ways_of := ⟨_, _, fun_mk (st := s_ways_of) l7 c7 k7, PySem.W.mg_of X G a7⟩
  have S_all_ways : Stands K mg "all_ways" s_all_ways := ⟨_, _, fun_mk (st := s_all_ways) l8 c8 k8, PySem.W.mg_of X G a8⟩
  have S_law_cell_at : Stands K mg "_law_cell_at" s_law_cell_at := ⟨_, _, fun_mk (st := s_law_cell_at) l9 c9 k9, PySem.W.mg_of X G a9⟩
  have S_law_whole : Stands K mg "_law_whole" s_law_whole := ⟨_, _, fun_mk (st := s_law_whole) l10 c10 k10, PySem.W.mg_of X G a10⟩
  have S_law_common : Stands K mg "_law_common" s_law_common := ⟨_, _, fun_mk (st := s_law_common) l11 c11 k11, PySem.W.mg_of X G a11⟩
  have S_law_lowest : Stands K mg "_law_lowest" s_law_lowest := ⟨_, _, fun_mk (st := s_law_lowest) l12 c12 k12, PySem.W.mg_of X G a12⟩
  have S_law_sum : Stands K mg "_law_sum" s_law_sum := ⟨_, _, fun_mk (st := s_law_sum) l13 c13 k13, PySem.W.mg_of X G a13⟩
  have S_law_list : Stands K mg "_law_list" s_law_list := ⟨_, _, fun_mk (st := s_law_list) l14 c14 k14, PySem.W.mg_of X G a14⟩
  have S_law_rows : Stands K mg "_law_rows" s_law_rows := ⟨_, _, fun_mk (st := s_law_rows) l15 c15 k15, PySem.W.mg_of X G a15⟩
  have S_law_comes : Stands K mg "_law_comes" s_law_comes := ⟨_, _, fun_mk (st := s_law_comes) l16 c16 k16, PySem.W.mg_of X G a16⟩
  have S_law_small : Stands K mg "_law_small" s_law_small := ⟨_, _, fun_mk (st := s_law_small) l17 c17 k17, PySem.W.mg_of X G a17⟩
  have S_law_built : Stands K mg "_law_built" s_law_built := ⟨_, _, fun_mk (st := s_law_built) l18 c18 k18, PySem.W.mg_of X G a18⟩
  refine ⟨PySem.W.fnOf "law" "law" (defArgs s_law) (defBody s_law) (defScope s_law) .none kV19 dc19 pm19 an19 cd19 ct19, fun s v => .of_eq rfl, fun base _ _ => ?_⟩
  have O_see := ok_see (P := l.prog) (w := w) (base := base) S_see B Er 
  have O_common := ok_common (P := l.prog) (w := w) (base := base) S_common B Er 
  have O_lowest := ok_lowest (P := l.prog) (w := w) (base := base) S_lowest B Er O_see O_common
  have O_less := ok_less (P := l.prog) (w := w) (base := base) S_less B Er O_see
  have O_taken := ok_taken (P := l.prog) (w := w) (base := base) S_taken B Er O_less O_lowest
  have O_see_below := ok_see_below (P := l.prog) (w := w) (base := base) S_see_below B Er O_see
  have O_up := ok_up (P := l.prog) (w := w) (base := base) S_up B Er 
  have O_ways_of := ok_ways_of (P := l.prog) (w := w) (base := base) S_ways_of B Er O_up O_taken
  have O_all_ways := ok_all_ways (P := l.prog) (w := w) (base := base) S_all_ways B Er O_see_below O_ways_of O_lowest
  have O_law_cell_at := ok_law_cell_at (P := l.prog) (w := w) (base := base) S_law_cell_at B Er 
  have O_law_whole := ok_law_whole (P := l.prog) (w := w) (base := base) S_law_whole B Er 
  have O_law_common := ok_law_common (P := l.prog) (w := w) (base := base) S_law_common B Er 
  have O_law_lowest := ok_law_lowest (P := l.prog) (w := w) (base := base) S_law_lowest B Er O_law_common
  have O_law_sum := ok_law_sum (P := l.prog) (w := w) (base := base) S_law_sum B Er O_law_lowest
  have O_law_list := ok_law_list (P := l.prog) (w := w) (base := base) S_law_list B Er O_law_whole
  have O_law_rows := ok_law_rows (P := l.prog) (w := w) (base := base) S_law_rows B Er 
  have O_law_comes := ok_law_comes (P := l.prog) (w := w) (base := base) S_law_comes B Er 
  have O_law_small := ok_law_small (P := l.prog) (w := w) (base := base) S_law_small B Er O_law_cell_at
  have O_law_built := ok_law_built (P := l.prog) (w := w) (base := base) S_law_built B Er O_law_sum O_all_ways O_law_cell_at O_law_comes
  exact ok_law (P := l.prog) (w := w) (base := base) (fun_mk (st := s_law) l19 c19 k19) B Er O_law_small O_all_ways O_law_built O_law_cell_at O_law_rows O_law_comes O_law_list
end U
open PySem PySem.W PyProof.Rows
set_option maxHeartbeats 0 in
theorem PySem.Challenge.cw_unitshares_k11_whole_all_ways_holds : PySem.Challenge.rw_unitshares_k11_whole_all_ways.Holds := by
  w_on; o_law; k_head; (case hw => w_witness2)
  k_fill
  refine L2.walk_of (l := PySem.Challenge.rw_unitshares_k11_whole_all_ways) (n := 63) (k := 12) (x := "script") (CX := fun _ => L2.CX0) (sp := fun w => U.sp_law _) rfl (by decide) rfl ⟨rfl, by decide, by decide⟩ (fun w h Y => PySem.W.kIn_of Y) ?F (fun _ _ a ns hl _ hS => ⟨a, ns, rfl, hS, hl, fun _ => rfl⟩) (fun _ _ _ _ _ h => h)
  case F =>
    intro w mg fa h KX G hmg
    refine' U.all_mk KX G hmg ?a0 ?l0 ?c0 ?k0 ?a1 ?l1 ?c1 ?k1 ?a2 ?l2 ?c2 ?k2 ?a3 ?l3 ?c3 ?k3 ?a4 ?l4 ?c4 ?k4 ?a5 ?l5 ?c5 ?k5 ?a6 ?l6 ?c6 ?k6 ?a7 ?l7 ?c7 ?k7 ?a8 ?l8 ?c8 ?k8 ?a9 ?l9 ?c9 ?k9 ?a10 ?l10 ?c10 ?k10 ?a11 ?l11 ?c11 ?k11 ?a12 ?l12 ?c12 ?k12 ?a13 ?l13 ?c13 ?k13 ?a14 ?l14 ?c14 ?k14 ?a15 ?l15 ?c15 ?k15 ?a16 ?l16 ?c16 ?k16 ?a17 ?l17 ?c17 ?k17 ?a18 ?l18 ?c18 ?k18 ?a19 ?l19 ?c19 ?k19 ?z0 ?z1 ?z2 ?z3 ?z4 ?z5 ?z6 ?z7 ?z8 ?z9 ?z10 ?z11 ?z12 ?z13 ?z14 ?nShareError ?e0ShareError ?e1ShareError ?e2ShareError ?e3ShareError ?nNoFraction ?e0NoFraction ?e1NoFraction ?e2NoFraction ?e3NoFraction ?nNotBelow ?e0NotBelow ?e1NotBelow ?e2NotBelow ?e3NotBelow
    (case a0 => k_is)
    (case l0 => k_is)
    (case c0 => k_is)
    (case k0 => k_is)
    (case a1 => k_is)
    (case l1 => k_is)
    (case c1 => k_is)
    (case k1 => k_is)
    (case a2 => k_is)
    (case l2 => k_is)
    (case c2 => k_is)
    (case k2 => k_is)
    (case a3 => k_is)
    (case l3 => k_is)
    (case c3 => k_is)
    (case k3 => k_is)
    (case a4 => k_is)
    (case l4 => k_is)
    (case c4 => k_is)
    (case k4 => k_is)
    (case a5 => k_is)
    (case l5 => k_is)
    (case c5 => k_is)
    (case k5 => k_is)
    (case a6 => k_is)
    (case l6 => k_is)
    (case c6 => k_is)
    (case k6 => k_is)
    (case a7 => k_is)
    (case l7 => k_is)
    (case c7 => k_is)
    (case k7 => k_is)
    (case a8 => k_is)
    (case l8 => k_is)
    (case c8 => k_is)
    (case k8 => k_is)
    (case a9 => k_is)
    (case l9 => k_is)
    (case c9 => k_is)
    (case k9 => k_is)
    (case a10 => k_is)
    (case l10 => k_is)
    (case c10 => k_is)
    (case k10 => k_is)
    (case a11 => k_is)
    (case l11 => k_is)
    (case c11 => k_is)
    (case k11 => k_is)
    (case a12 => k_is)
    (case l12 => k_is)
    (case c12 => k_is)
    (case k12 => k_is)
    (case a13 => k_is)
    (case l13 => k_is)
    (case c13 => k_is)
    (case k13 => k_is)
    (case a14 => k_is)
    (case l14 => k_is)
    (case c14 => k_is)
    (case k14 => k_is)
    (case a15 => k_is)
    (case l15 => k_is)
    (case c15 => k_is)
    (case k15 => k_is)
    (case a16 => k_is)
    (case l16 => k_is)
    (case c16 => k_is)
    (case k16 => k_is)
    (case a17 => k_is)
    (case l17 => k_is)
    (case c17 => k_is)
    (case k17 => k_is)
    (case a18 => k_is)
    (case l18 => k_is)
    (case c18 => k_is)
    (case k18 => k_is)
    (case a19 => k_is)
    (case l19 => k_is)
    (case c19 => k_is)
    (case k19 => k_is)
    (case z0 => k_is)
    (case z1 => k_is)
    (case z2 => k_is)
    (case z3 => k_is)
    (case z4 => k_is)
    (case z5 => k_is)
    (case z6 => k_is)
    (case z7 => k_is)
    (case z8 => k_is)
    (case z9 => k_is)
    (case z10 => k_is)
    (case z11 => k_is)
    (case z12 => k_is)
    (case z13 => k_is)
    (case z14 => k_is)
    (case nShareError => k_is)
    (case e0ShareError => k_exc)
    (case e1ShareError => k_is)
    (case e2ShareError => k_is)
    (case e3ShareError => k_is)
    (case nNoFraction => k_is)
    (case e0NoFraction => k_exc)
    (case e1NoFraction => k_is)
    (case e2NoFraction => k_is)
    (case e3NoFraction => k_is)
    (case nNotBelow => k_is)
    (case e0NotBelow => k_exc)
    (case e1NotBelow => k_is)
    (case e2NotBelow => k_is)
    (case e3NotBelow => k_is)
