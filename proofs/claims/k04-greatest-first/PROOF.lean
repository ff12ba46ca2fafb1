import PyProof.Rows.All
import Wide.All
import OpenK.AllK
import Wide.FinOn
import HandS.ForMost
import HandS.ForExc
import HandS.More
import HandS.Wide
import HandS.WideBits
import HandS.IsInst
import HandS.SortInts
import HandS.SetFor
import HandS.Strs
import HandS.Zip
import HandS.HotCalls
import HandS.ExcIs
import PySem.Challenge.RW_unitshares_k04_whole_greatest_first
set_option Elab.async false
set_option linter.all false
set_option maxRecDepth 100000
set_option maxHeartbeats 4000000
namespace U
open PySem PySem.Spec PyProof.Rows L2
def topS (i : Nat) : Stmt := PySem.Challenge.pw_unitshares_k04_whole_greatest_first.main.body.getD i (.Pass ⟨0, 0, 0, 0⟩)
/-! ### how a def, a class, a built-in stand -/
/-- the module's name x holds the def st -/
def Stands (K : PySem.W.Frag) (mg : Str → Option Value) (x : Str) (st : Stmt) : Prop := ∃ f fd, Fun K x x st f fd ∧ mg x = some (.ref f)
/-- the def x keeps the promise sp -/
def Keeps (P : Program) (w : World) (K : PySem.W.Frag) (mg : Str → Option Value) (base : Heap) (k : Nat) (x : Str) (ps : List Str) (sp : Sp) : Prop :=
  ∃ f fd, FnOk P w K mg base (L2.CX P w) k f fd ps sp ∧ Binds K fd ps [] ∧ mg x = some (.ref f) ∧ PySem.W.keepIn K (.ref f) = true
/-- nothing leaves, so whatever leaves is as one likes -/
theorem toX {P : Program} {w : World} {K : PySem.W.Frag} {mg : Str → Option Value} {base : Heap} {k : Nat} {f : Addr} {fd : FuncData} {ps : List Str} {sp : Sp} (F : FnOk P w K mg base CX0 k f fd ps sp) : FnOk P w K mg base (L2.CX P w) k f fd ps sp :=
  ⟨F.len, fun A outer s H args us vs Q E hr e0 hb r h => codeAny_mono (F.run A outer s H args us vs Q E hr e0 hb r h) fun r s' q => by
    cases r with
    | error e => exact False.elim q
    | ok fl => cases fl <;> exact q⟩
structure Bi (mg : Str → Option Value) : Prop where
  len : mg "len" = none
  range : mg "range" = none
  min : mg "min" = none
  max : mg "max" = none
  sum : mg "sum" = none
  sorted : mg "sorted" = none
  set : mg "set" = none
  dict : mg "dict" = none
  list : mg "list" = none
  str : mg "str" = none
  int : mg "int" = none
  isinstance : mg "isinstance" = none
  bool : mg "bool" = none
  tuple : mg "tuple" = none
  ValueError : mg "ValueError" = none
abbrev veT : List Value := [.type "ValueError", .type "Exception", .type "BaseException", .type "object"]
/-! ### heaps -/
theorem same_new {H : Hp} {p : Addr} {o : HO} (h : H p = none) : Same H (upd H p o) := fun b x e => by
  rw [upd_ne (ne_of_none e h)]
  exact e
/-- an object that H does not know is written -/
theorem same_mut {H H' : Hp} {p : Addr} {o : HO} (s : Same H H') (h : H p = none) : Same H (upd H' p o) := fun b x e => by
  rw [upd_ne (ne_of_none e h)]
  exact s b x e
theorem same_tup {K : PySem.W.Frag} {H H' : Hp} {a : Addr} {xs : List V} (e : Same H H') (h : SqT K H a xs) : SqT K H' a xs := by
  rcases h with (h | ⟨o, h⟩) | h
  · exact .inl (.inl (e _ _ h))
  · exact .inl (.inr ⟨o, e _ _ h⟩)
  · exact .inr h
theorem ty_list {K : PySem.W.Frag} {H : Hp} {a : Addr} {xs : List V} (h : SqL K H a xs) : TyX K H (.ref a) (.type "list") := by
  rcases h with (h | ⟨o, h⟩) | ⟨o, _, _, h, c, _⟩
  · exact .base (.lst h)
  · exact .base (.frz h)
  · exact .kList h c
theorem ty_tup {K : PySem.W.Frag} {H : Hp} {a : Addr} {xs : List V} (h : SqT K H a xs) : TyX K H (.ref a) (.type "tuple") := by
  rcases h with (h | ⟨o, h⟩) | ⟨o, _, _, h, c, _⟩
  · exact .base (.tup h)
  · exact .fTuple h
  · exact .kTuple h c
theorem szl {n : Nat} (h : n ≤ 16000000) : n ≤ sizeLine := Nat.le_trans h (by decide)
theorem szl_lt {n : Nat} (h : n < 16000000) : n < sizeLine := Nat.lt_of_lt_of_le h (by decide)
theorem get_map {α β : Type} {f : α → β} {l : List α} {i : Nat} {x : α} (h : l[i]? = some x) : (l.map f)[i]? = some (f x) := by
  rw [List.getElem?_map, h] <;> rfl
theorem of_get_map {α β : Type} {f : α → β} {l : List α} {i : Nat} {y : β} (h : (l.map f)[i]? = some y) : ∃ x, l[i]? = some x ∧ y = f x := by
  rw [List.getElem?_map] at h
  cases e : l[i]? with
  | none => rw [e] at h; cases h
  | some x => rw [e] at h; exact ⟨x, rfl, (Option.some.inj h).symm⟩
theorem take_snoc {α : Type} {l : List α} {i : Nat} {x : α} (h : l[i]? = some x) : l.take (i + 1) = l.take i ++ [x] := by
  rw [List.take_add_one, h] <;> rfl
theorem lt_of_get {α : Type} {l : List α} {i : Nat} {x : α} (h : l[i]? = some x) : i < l.length := (List.getElem?_eq_some_iff.mp h).1
/-- 1, 2, .., n -/
def upto (n : Nat) : List Int := (List.range n).map fun (i : Nat) => 1 + (i : Int)
theorem upto_succ (n : Nat) : upto (n + 1) = upto n ++ [1 + (n : Int)] := by
  unfold upto
  rw [List.range_succ, List.map_append] <;> rfl
theorem upto_length (n : Nat) : (upto n).length = n := by
  unfold upto
  rw [List.length_map, List.length_range]
theorem mem_upto {n : Nat} {x : Int} : x ∈ upto n ↔ 1 ≤ x ∧ x ≤ n := by
  unfold upto
  rw [List.mem_map]
  constructor
  · rintro ⟨i, hi, rfl⟩
    have := List.mem_range.mp hi
    omega
  · rintro ⟨h1, h2⟩
    exact ⟨(x - 1).toNat, List.mem_range.mpr (by omega), by omega⟩
theorem cw_mul {i j : Int} {a b : Nat} (ha : i.natAbs < 2 ^ a) (hb : j.natAbs < 2 ^ b) (h0 : 0 < a := by decide) (h1 : 0 < b := by decide) (h : a + b ≤ 1000000 := by decide) : CMulW i j := wide_mul ha hb h0 h1 h
/-- // by a positive divisor, where it is told that C divides by itself -/
theorem op_fdivP {X : Cx} : OpR X (binaryOp .FloorDiv) (rI CDivP fun i j => .int (i / j)) := opI fun i j _ _ _ _ _ hc q => by
  have h1 : (0 : Int) < j := hc.1
  exact floordiv_int (by omega) (by rw [Int.fdiv_eq_ediv_of_nonneg i (by omega)]; exact q) (.inl hc.2)
theorem cdp_of {i j : Int} (h : CDivW i j) : CDivP i j := ⟨h.1, PyProof.noPylong_of_log2 h.2⟩
theorem cw_div {i j : Int} {b : Nat} (h : 0 < j) (hb : j.natAbs < 2 ^ b) (h0 : 0 < b := by decide) (h9 : b ≤ 9000 := by decide) : CDivP i j := cdp_of (wide_div h hb h0 h9)
theorem fil_yes {α : Type} {q : α → Prop} [DecidablePred q] {l : List α} {x : α} (h : q x) : (l ++ [x]).filter (fun k => decide (q k)) = l.filter (fun k => decide (q k)) ++ [x] := by
  rw [List.filter_append]
  congr 1
  simp [h]
theorem fil_no {α : Type} {q : α → Prop} [DecidablePred q] {l : List α} {x : α} (h : ¬ q x) : (l ++ [x]).filter (fun k => decide (q k)) = l.filter (fun k => decide (q k)) := by
  rw [List.filter_append]
  simp [h]
/-- what holds behind a statement, its ways joined -/
theorem cut {t R : TS} {D : Ends} {σ : L2.St} {H : Hp} (Pm : L2.St → Hp → Prop) (h1 : ∀ (R : TS) (D : Ends), (∀ σ' H', Pm σ' H' → R D σ' H') → tSeq t R D σ H) (h2 : ∀ σ' H', Pm σ' H' → R D σ' H') : tSeq t R D σ H := h1 R D h2
theorem snoc_ind {α : Type} (P : List α → Prop) (l : List α) (h0 : P []) (hs : ∀ l x, P l → P (l ++ [x])) : P l := by
  have : ∀ r : List α, P r.reverse := fun r => by
    induction r with
    | nil => exact h0
    | cons x r ih =>
      rw [List.reverse_cons]
      exact hs _ _ ih
  have := this l.reverse
  rwa [List.reverse_reverse] at this

/-! ### sizes, by bits -/
/-- x has at most n bits -/
def Sz (n : Nat) (x : Int) : Prop := x.natAbs < 2 ^ n
theorem Sz.mono {a b : Nat} {x : Int} (h : Sz a x) (l : a ≤ b := by decide) : Sz b x := Nat.lt_of_lt_of_le h (Nat.pow_le_pow_right (by decide) l)
theorem Sz.le {a : Nat} {x y : Int} (h : Sz a y) (h0 : 0 ≤ x) (l : x ≤ y) : Sz a x := Nat.lt_of_le_of_lt (by omega : x.natAbs ≤ y.natAbs) h
theorem Sz.mul {a b : Nat} {x y : Int} (h : Sz a x) (g : Sz b y) : Sz (a + b) (x * y) := by
  unfold Sz
  rw [Int.natAbs_mul, Nat.pow_add]
  exact Nat.mul_lt_mul'' h g
theorem Sz.add {a : Nat} {x y : Int} (h : Sz a x) (g : Sz a y) : Sz (a + 1) (x + y) := by
  have h : x.natAbs < 2 ^ a := h
  have g : y.natAbs < 2 ^ a := g
  show (x + y).natAbs < 2 ^ (a + 1)
  rw [Nat.pow_succ]
  omega
theorem Sz.sub {a : Nat} {x y : Int} (h : Sz a x) (g : Sz a y) : Sz (a + 1) (x - y) := by
  have h : x.natAbs < 2 ^ a := h
  have g : y.natAbs < 2 ^ a := g
  show (x - y).natAbs < 2 ^ (a + 1)
  rw [Nat.pow_succ]
  omega
theorem Sz.cm {a b : Nat} {i j : Int} (ha : Sz a i) (hb : Sz b j) (h0 : 0 < a := by decide) (h1 : 0 < b := by decide) (h : a + b ≤ 1000000 := by decide) : CMulW i j := wide_mul ha hb h0 h1 h
theorem Sz.cd {b : Nat} {i j : Int} (hb : Sz b j) (h : 0 < j) (h0 : 0 < b := by decide) (h9 : b ≤ 9000 := by decide) : CDivP i j := cw_div h hb h0 h9
theorem Sz.lit {a : Nat} {x : Int} (h : x.natAbs < 2 ^ a := by decide) : Sz a x := h
theorem Sz.one {a : Nat} (h : 0 < a := by decide) : Sz a 1 := Nat.one_lt_two_pow (by omega)
theorem Sz.zero {a : Nat} : Sz a 0 := Nat.pow_pos (by decide)
/-- a dividend not much greater than its divisor -/
theorem cdp_near {i j : Int} {k : Nat} (hj : 0 < j) (h : i.natAbs ≤ 2 ^ k * j.natAbs) (hk : k ≤ 3000 := by decide) : CDivP i j := by
  refine divp_ok hj ?_
  have b1 : j.natAbs < 2 ^ (j.natAbs.log2 + 1) := Nat.lt_log2_self
  have b2 : i.natAbs < 2 ^ (k + (j.natAbs.log2 + 1)) := by
    rw [Nat.pow_add]
    exact Nat.lt_of_le_of_lt h (Nat.mul_lt_mul_of_pos_left b1 (Nat.pow_pos (by decide)))
  have b3 := PyProof.Rows.intBits_le b2
  have b4 : Builtin.Int.intBits j = j.natAbs.log2 + 1 := by
    unfold Builtin.Int.intBits
    rw [if_neg (by simpa using (show j ≠ 0 by omega))]
  omega

--: math = sz
/-! ### lowest terms -/
def gc (a b : Int) : Int := ((Int.gcd a b : Nat) : Int)
def low (t b : Int) : Int × Int := (t / gc t b, b / gc t b)
theorem gc_nn (a b : Int) : 0 ≤ gc a b := Int.natCast_nonneg _
theorem gc_pos {t b : Int} (h : 1 ≤ b) : 0 < gc t b := by
  have : Int.gcd t b ≠ 0 := fun z => by
    have := (Int.gcd_eq_zero_iff.mp z).2
    omega
  unfold gc
  omega
theorem gc_dl (t b : Int) : gc t b ∣ t := Int.gcd_dvd_left ..
theorem gc_dr (t b : Int) : gc t b ∣ b := Int.gcd_dvd_right ..
theorem gc_le {t b : Int} (h : 1 ≤ b) : gc t b ≤ b := Int.le_of_dvd (by omega) (gc_dr t b)
theorem low_t (t b : Int) : (low t b).1 * gc t b = t := Int.ediv_mul_cancel (gc_dl t b)
theorem low_b (t b : Int) : (low t b).2 * gc t b = b := Int.ediv_mul_cancel (gc_dr t b)
theorem low_bpos {t b : Int} (h : 1 ≤ b) : 1 ≤ (low t b).2 := by
  have g := gc_pos (t := t) h
  have e := low_b t b
  by_cases z : 1 ≤ (low t b).2
  · exact z
  · have : (low t b).2 * gc t b ≤ 0 := Int.mul_nonpos_of_nonpos_of_nonneg (by omega) (by omega)
    omega
theorem low_tnn {t b : Int} (h : 1 ≤ b) (h0 : 0 ≤ t) : 0 ≤ (low t b).1 := Int.ediv_nonneg h0 (gc_nn t b)
theorem low_ble {t b : Int} (h : 1 ≤ b) : (low t b).2 ≤ b := Int.ediv_le_self _ (by omega)
theorem low_tle {t b : Int} (h0 : 0 ≤ t) : (low t b).1 ≤ t := Int.ediv_le_self _ h0
theorem low_cross (t b : Int) : t * (low t b).2 = (low t b).1 * b := by
  have h1 := low_t t b
  have h2 := low_b t b
  calc t * (low t b).2 = (low t b).1 * gc t b * (low t b).2 := by rw [h1]
    _ = (low t b).1 * ((low t b).2 * gc t b) := by rw [Int.mul_assoc, Int.mul_comm (gc t b)]
    _ = (low t b).1 * b := by rw [h2]
theorem low_scale {t b k : Int} (h : 0 < k) : low (t * k) (b * k) = low t b := by
  unfold low gc
  rw [Int.gcd_mul_right, Int.natCast_mul, Int.natAbs_of_nonneg (by omega), Int.mul_ediv_mul_of_pos_left _ _ h, Int.mul_ediv_mul_of_pos_left _ _ h]
theorem low_uniq {t b t' b' : Int} (h : 0 < b) (h' : 0 < b') (e : t * b' = t' * b) : low t b = low t' b' := by
  rw [← low_scale (t := t) (b := b) h', ← low_scale (t := t') (b := b') h, e, Int.mul_comm b b']
theorem low_low {t b : Int} (h : 1 ≤ b) : low (low t b).1 (low t b).2 = low t b :=
  low_uniq (by have := low_bpos (t := t) h; omega) (by omega) (low_cross t b).symm
theorem low_of_eq {t b t' b' : Int} (h : 1 ≤ b) (e : low t b = low t' b') : t * b' = t' * b := by
  have c1 := low_cross t b
  have c2 := low_cross t' b'
  rw [← e] at c2
  have hb := low_bpos (t := t) h
  refine Int.eq_of_mul_eq_mul_right (a := (low t b).2) (by omega) ?_
  calc t * b' * (low t b).2 = t * (low t b).2 * b' := by rw [Int.mul_assoc, Int.mul_comm b', Int.mul_assoc]
    _ = (low t b).1 * b' * b := by rw [c1, Int.mul_assoc, Int.mul_comm b, ← Int.mul_assoc]
    _ = t' * b * (low t b).2 := by rw [← c2, Int.mul_assoc, Int.mul_comm _ b, ← Int.mul_assoc]
theorem gc_step {x y : Int} : gc y (x % y) = gc x y := by
  unfold gc
  rw [Int.gcd_comm x y]
  have h := Int.gcd_add_mul_left_right y (x % y) (x / y)
  rw [Int.emod_add_mul_ediv] at h
  rw [h]
theorem gc_zero {x : Int} (h : 0 ≤ x) : gc x 0 = x := by
  unfold gc
  rw [Int.gcd_zero_right]
  omega
/-- what _law_lowest's two divisions ask -/
theorem low_divs {t b : Int} (hb : 1 ≤ b) (z : Sz 9000 b) : CDivP t (gc t b) ∧ CDivP b (gc t b) := by
  have g := gc_pos (t := t) hb
  have zg : Sz 9000 (gc t b) := z.le (by omega) (gc_le hb)
  exact ⟨zg.cd g, zg.cd g⟩
theorem low_near {t b : Int} (hb : 1 ≤ b) (h1 : Sz 3000 (low t b).1) (h2 : Sz 3000 (low t b).2) : CDivP t (gc t b) ∧ CDivP b (gc t b) := by
  have g := gc_pos (t := t) hb
  have e1 := congrArg Int.natAbs (low_t t b)
  have e2 := congrArg Int.natAbs (low_b t b)
  rw [Int.natAbs_mul] at e1 e2
  have h1 : (low t b).1.natAbs < 2 ^ 3000 := h1
  have h2 : (low t b).2.natAbs < 2 ^ 3000 := h2
  refine ⟨cdp_near (k := 3000) g ?_, cdp_near (k := 3000) g ?_⟩
  · rw [← e1]
    exact Nat.mul_le_mul_right _ (Nat.le_of_lt h1)
  · rw [← e2]
    exact Nat.mul_le_mul_right _ (Nat.le_of_lt h2)

--: math = low
/-! ### sums of shares -/
def sumS (xs : List Int) : Int × Int := xs.foldl (fun p s => (p.1 * s + p.2, p.2 * s)) (0, 1)
/-- the sum of the shares, in lowest terms -/
def lowS (xs : List Int) : Int × Int := low (sumS xs).1 (sumS xs).2
/-- shares: none below one -/
def Pos (xs : List Int) : Prop := ∀ x ∈ xs, (1 : Int) ≤ x
theorem sumS_snoc (xs : List Int) (s : Int) : sumS (xs ++ [s]) = ((sumS xs).1 * s + (sumS xs).2, (sumS xs).2 * s) := by
  unfold sumS
  rw [List.foldl_append] <;> rfl
theorem sumS_nil : sumS [] = (0, 1) := rfl
theorem low_01 : low 0 1 = (0, 1) := by decide
theorem lowS_nil : lowS [] = (0, 1) := low_01
theorem Pos.snoc {xs : List Int} {s : Int} (h : Pos (xs ++ [s])) : Pos xs ∧ 1 ≤ s :=
  ⟨fun x hx => h x (List.mem_append_left _ hx), h s (List.mem_append_right _ List.mem_cons_self)⟩
theorem sumS_pos (xs : List Int) : Pos xs → 0 ≤ (sumS xs).1 ∧ 1 ≤ (sumS xs).2 ∧ (sumS xs).1 ≤ xs.length * (sumS xs).2 := by
  refine snoc_ind (fun xs => Pos xs → 0 ≤ (sumS xs).1 ∧ 1 ≤ (sumS xs).2 ∧ (sumS xs).1 ≤ xs.length * (sumS xs).2) xs (fun _ => ⟨by decide, by decide, by decide⟩) (fun l x ih h => ?_)
  obtain ⟨h1, h2⟩ := h.snoc
  obtain ⟨a, b, c⟩ := ih h1
  rw [sumS_snoc, List.length_append]
  have p1 : 0 ≤ (sumS l).1 * x := Int.mul_nonneg a (by omega)
  have p2 : 0 < (sumS l).2 * x := Int.mul_pos (by omega) (by omega)
  refine ⟨by show 0 ≤ (sumS l).1 * x + (sumS l).2; omega, p2, ?_⟩
  show (sumS l).1 * x + (sumS l).2 ≤ ((l.length + 1 : Nat) : Int) * ((sumS l).2 * x)
  have q1 : (sumS l).1 * x ≤ l.length * (sumS l).2 * x := Int.mul_le_mul_of_nonneg_right c (by omega)
  have q2 : (sumS l).2 * 1 ≤ (sumS l).2 * x := Int.mul_le_mul_of_nonneg_left h2 (by omega)
  rw [Int.natCast_add, Int.add_mul, ← Int.mul_assoc]
  omega
theorem pos_take {xs : List Int} (h : Pos xs) (i : Nat) : Pos (xs.take i) := fun x hx => h x (List.mem_of_mem_take hx)
theorem sumS_append_le (ys xs : List Int) : Pos (xs ++ ys) → (sumS xs).2 ≤ (sumS (xs ++ ys)).2 := by
  refine snoc_ind (fun ys => Pos (xs ++ ys) → (sumS xs).2 ≤ (sumS (xs ++ ys)).2) ys (fun _ => ?_) (fun l x ih h => ?_)
  · rw [List.append_nil]
    exact Int.le_refl _
  · rw [← List.append_assoc] at h ⊢
    obtain ⟨h1, h2⟩ := h.snoc
    have a := ih h1
    have b := (sumS_pos _ h1).2.1
    rw [sumS_snoc (xs ++ l)]
    show (sumS xs).2 ≤ (sumS (xs ++ l)).2 * x
    have : (sumS (xs ++ l)).2 * 1 ≤ (sumS (xs ++ l)).2 * x := Int.mul_le_mul_of_nonneg_left h2 (by omega)
    omega
theorem sumS_take_le {xs : List Int} (h : Pos xs) (i : Nat) : (sumS (xs.take i)).2 ≤ (sumS xs).2 := by
  have := sumS_append_le (xs.drop i) (xs.take i)
  rw [List.take_append_drop] at this
  exact this h
/-- sizes within a sum -/
structure SumOk (xs : List Int) : Prop where
  pos : Pos xs
  sz : Sz 4000 (sumS xs).2
  len : xs.length ≤ 1000
theorem SumOk.take {xs : List Int} (h : SumOk xs) (i : Nat) : SumOk (xs.take i) where
  pos := pos_take h.pos i
  sz := h.sz.le (by have := (sumS_pos _ (pos_take h.pos i)).2.1; omega) (sumS_take_le h.pos i)
  len := by
    have := h.len
    rw [List.length_take]
    omega
theorem SumOk.top {xs : List Int} (h : SumOk xs) : Sz 4010 (sumS xs).1 := by
  obtain ⟨a, b, c⟩ := sumS_pos _ h.pos
  have hl : Sz 10 (xs.length : Int) := by
    have := h.len
    show (xs.length : Int).natAbs < 1024
    omega
  exact (hl.mul h.sz).mono.le a c
theorem SumOk.item {xs : List Int} (h : SumOk xs) {i : Nat} {s : Int} (e : xs[i]? = some s) : 1 ≤ s ∧ Sz 4000 s := by
  have hs : 1 ≤ s := h.pos s (List.mem_of_getElem? e)
  have k := (h.take (i + 1)).sz
  rw [List.take_add_one, e] at k
  have k : Sz 4000 (sumS (xs.take i ++ [s])).2 := k
  rw [sumS_snoc] at k
  have b := (sumS_pos _ (pos_take h.pos i)).2.1
  refine ⟨hs, Sz.le k (by omega) ?_⟩
  show s ≤ (sumS (xs.take i)).2 * s
  have : 1 * s ≤ (sumS (xs.take i)).2 * s := Int.mul_le_mul_of_nonneg_right b (by omega)
  omega
theorem low_step {t b s : Int} (hb : 1 ≤ b) (hs : 1 ≤ s) : low ((low t b).1 * s + 1 * (low t b).2) ((low t b).2 * s) = low (t * s + b) (b * s) := by
  have h := low_bpos (t := t) hb
  have p1 : 0 < (low t b).2 * s := Int.mul_pos (by omega) (by omega)
  have p2 : 0 < b * s := Int.mul_pos (by omega) (by omega)
  refine low_uniq p1 p2 ?_
  have c := low_cross t b
  generalize (low t b).1 = x at *
  generalize (low t b).2 = y at *
  have c2 : t * y * (s * s) = x * b * (s * s) := by rw [c]
  simp only [Int.add_mul, Int.mul_add, Int.one_mul] at *
  simp only [Int.mul_comm, Int.mul_left_comm, Int.mul_assoc] at *
  omega
theorem lowS_snoc {xs : List Int} {s : Int} (h : Pos xs) (hs : 1 ≤ s) : low ((lowS xs).1 * s + 1 * (lowS xs).2) ((lowS xs).2 * s) = lowS (xs ++ [s]) := by
  unfold lowS
  rw [low_step (sumS_pos _ h).2.1 hs, sumS_snoc]
theorem prod_sz {m : Nat} (xs : List Int) : (∀ x ∈ xs, (1 : Int) ≤ x ∧ Sz m x) → Sz (m * xs.length + 1) (sumS xs).2 := by
  refine snoc_ind (fun xs => (∀ x ∈ xs, (1 : Int) ≤ x ∧ Sz m x) → Sz (m * xs.length + 1) (sumS xs).2) xs (fun _ => Sz.one (by show 0 < m * 0 + 1; omega)) (fun l x ih h => ?_)
  have h1 := ih fun y hy => h y (List.mem_append_left _ hy)
  have h2 := (h x (List.mem_append_right _ List.mem_cons_self)).2
  rw [sumS_snoc, List.length_append]
  exact (h1.mul h2).mono (by show m * l.length + 1 + m ≤ m * (l.length + 1) + 1; rw [Nat.mul_add]; omega)
theorem cm_prod {x y : Int} {n : Nat} (hx : 0 ≤ x) (hy : 1 ≤ y) (h : Sz n (x * y)) (h2 : Sz n y) (h0 : 0 < n := by decide) (hn : n ≤ 1000000 := by decide) : CMulW x y := by
  unfold CMulW
  by_cases z : x = 0
  · subst z
    have := PySem.Flt.log2_lt_of h0 h2
    have e : (0 : Int).natAbs.log2 = 0 := by decide
    omega
  · have a := Nat.log2_self_le (n := x.natAbs) (by omega)
    have b := Nat.log2_self_le (n := y.natAbs) (by omega)
    have c : 2 ^ (x.natAbs.log2 + y.natAbs.log2) < 2 ^ n := by
      rw [Nat.pow_add]
      refine Nat.lt_of_le_of_lt (Nat.mul_le_mul a b) ?_
      rw [← Int.natAbs_mul]
      exact h
    have := (Nat.pow_lt_pow_iff_right (by decide : 1 < 2)).mp c
    omega
/-- sizes within a sum, great ones -/
structure SumC (xs : List Int) : Prop where
  pos : Pos xs
  sz : Sz 600000 (sumS xs).2
  len : xs.length ≤ 1000
  d1 : CDivP (sumS xs).1 (gc (sumS xs).1 (sumS xs).2)
  d2 : CDivP (sumS xs).2 (gc (sumS xs).1 (sumS xs).2)
theorem SumOk.c {xs : List Int} (h : SumOk xs) : SumC xs := by
  obtain ⟨a, b, c⟩ := sumS_pos _ h.pos
  have g := gc_pos (t := (sumS xs).1) b
  have z : Sz 9000 (gc (sumS xs).1 (sumS xs).2) := (h.sz.mono : Sz 9000 _).le (by omega) (gc_le b)
  exact ⟨h.pos, h.sz.mono, h.len, z.cd g, z.cd g⟩
theorem SumC.at {xs : List Int} (h : SumC xs) (i : Nat) : Sz 600000 (sumS (xs.take i)).2 ∧ Sz 600010 (sumS (xs.take i)).1 := by
  obtain ⟨a, b, c⟩ := sumS_pos _ (pos_take h.pos i)
  have s2 : Sz 600000 (sumS (xs.take i)).2 := h.sz.le (by omega) (sumS_take_le h.pos i)
  have hl : Sz 10 ((xs.take i).length : Int) := by
    have := h.len
    have : (xs.take i).length ≤ xs.length := by rw [List.length_take]; omega
    show ((xs.take i).length : Int).natAbs < 1024
    omega
  exact ⟨s2, (hl.mul s2).mono.le a c⟩
theorem SumC.step {xs : List Int} (h : SumC xs) {i : Nat} {s : Int} (e : xs[i]? = some s) : CMulW (sumS (xs.take i)).1 s ∧ CMulW (sumS (xs.take i)).2 s := by
  have hs : 1 ≤ s := h.pos s (List.mem_of_getElem? e)
  obtain ⟨a, b, c⟩ := sumS_pos _ (pos_take h.pos i)
  have k := h.at (i + 1)
  rw [take_snoc e, sumS_snoc] at k
  obtain ⟨k1, k2⟩ := k
  have k1 : Sz 600000 ((sumS (xs.take i)).2 * s) := k1
  have k2 : Sz 600010 ((sumS (xs.take i)).1 * s + (sumS (xs.take i)).2) := k2
  have p1 : 0 ≤ (sumS (xs.take i)).1 * s := Int.mul_nonneg a (by omega)
  have s1 : s ≤ (sumS (xs.take i)).2 * s := by
    have : 1 * s ≤ (sumS (xs.take i)).2 * s := Int.mul_le_mul_of_nonneg_right b (by omega)
    omega
  have zs : Sz 600000 s := k1.le (by omega) s1
  exact ⟨cm_prod (n := 600010) a hs (k2.le p1 (by omega)) zs.mono, cm_prod (n := 600000) (by omega) hs k1 zs⟩

--: math = sums
/-! ### rising factors -/
/-- the least number that is no less than t / b -/
def upF (t b : Int) : Int := (t + b - 1) / b
theorem upF_hi {B T : Int} (h : 1 ≤ T) : B ≤ upF B T * T := by
  have e := Int.emod_add_mul_ediv (B + T - 1) T
  have l := Int.emod_lt_of_pos (B + T - 1) (b := T) (by omega)
  rw [Int.mul_comm] at e
  unfold upF
  omega
theorem upF_lo {B T : Int} (h : 1 ≤ T) : (upF B T - 1) * T < B := by
  have e := Int.emod_add_mul_ediv (B + T - 1) T
  have l := Int.emod_nonneg (B + T - 1) (b := T) (by omega)
  rw [Int.mul_comm] at e
  unfold upF
  rw [Int.sub_mul]
  omega
theorem upF_uniq {B T n : Int} (h : 1 ≤ T) (h1 : (n - 1) * T < B) (h2 : B ≤ n * T) : upF B T = n := by
  have a := upF_hi (B := B) h
  have b := upF_lo (B := B) h
  have c1 : upF B T - 1 < n := Int.lt_of_mul_lt_mul_right (Int.lt_of_lt_of_le b h2) (by omega)
  have c2 : n - 1 < upF B T := Int.lt_of_mul_lt_mul_right (Int.lt_of_lt_of_le h1 a) (by omega)
  omega
theorem upF_two {B T : Int} (h : 1 ≤ T) (hb : T < B) : 2 ≤ upF B T := by
  have a := upF_hi (B := B) h
  by_cases c : 2 ≤ upF B T
  · exact c
  · have : upF B T * T ≤ 1 * T := Int.mul_le_mul_of_nonneg_right (by omega) (by omega)
    omega
theorem upF_le {B T : Int} (h : 1 ≤ T) (hb : 1 ≤ B) : upF B T ≤ B := by
  have b := upF_lo (B := B) h
  by_cases c : upF B T ≤ B
  · exact c
  · have : B * T ≤ (upF B T - 1) * T := Int.mul_le_mul_of_nonneg_right (by omega) (by omega)
    have : B * 1 ≤ B * T := Int.mul_le_mul_of_nonneg_left h (by omega)
    omega
theorem upF_pos {B T : Int} (h : 1 ≤ T) (hb : 1 ≤ B) : 1 ≤ upF B T := by
  have a := upF_hi (B := B) h
  by_cases c : 1 ≤ upF B T
  · exact c
  · have : upF B T * T ≤ 0 * T := Int.mul_le_mul_of_nonneg_right (by omega) (by omega)
    omega
/-- what is left of the top -/
def nxt (T B : Int) : Int := T * upF B T - B
theorem nxt_nn {T B : Int} (h : 1 ≤ T) : 0 ≤ nxt T B := by
  have a := upF_hi (B := B) h
  unfold nxt
  rw [Int.mul_comm]
  omega
theorem nxt_lt {T B : Int} (h : 1 ≤ T) : nxt T B < T := by
  have b := upF_lo (B := B) h
  rw [Int.sub_mul] at b
  unfold nxt
  rw [Int.mul_comm]
  omega
def rf : Nat → Int → Int → List Int
  | 0, _, _ => []
  | k + 1, T, B => if T ≤ 0 then [] else upF B T :: rf k (nxt T B) B
/-- the numbers of the rising factors of T / B -/
def rfs (T B : Int) : List Int := rf T.toNat T B
theorem rf_fuel : ∀ (k : Nat) (T B : Int), T.toNat ≤ k → rf k T B = rf T.toNat T B
  | 0, T, B, h => by
    have e : T.toNat = 0 := by omega
    rw [e]
  | k + 1, T, B, h => by
    by_cases c : T ≤ 0
    · have e : T.toNat = 0 := by omega
      rw [e]
      show (if T ≤ 0 then [] else _) = _
      rw [if_pos c] <;> rfl
    · obtain ⟨m, em⟩ : ∃ m, T.toNat = m + 1 := ⟨T.toNat - 1, by omega⟩
      have l := nxt_lt (T := T) (B := B) (by omega)
      rw [em]
      show (if T ≤ 0 then [] else upF B T :: rf k (nxt T B) B) = (if T ≤ 0 then [] else upF B T :: rf m (nxt T B) B)
      rw [rf_fuel k (nxt T B) B (by omega), rf_fuel m (nxt T B) B (by omega)]
theorem rfs_nil {T B : Int} (h : T ≤ 0) : rfs T B = [] := by
  have e : T.toNat = 0 := by omega
  unfold rfs
  rw [e] <;> rfl
theorem rfs_cons {T B : Int} (h : 1 ≤ T) : rfs T B = upF B T :: rfs (nxt T B) B := by
  obtain ⟨m, em⟩ : ∃ m, T.toNat = m + 1 := ⟨T.toNat - 1, by omega⟩
  have l := nxt_lt (T := T) (B := B) h
  unfold rfs
  rw [em]
  show (if T ≤ 0 then [] else upF B T :: rf m (nxt T B) B) = _
  rw [if_neg (by omega), rf_fuel m (nxt T B) B (by omega)]
/-- by what is left -/
theorem rfs_ind (P : Int → Prop) {B : Int} (h0 : ∀ T, T ≤ 0 → P T) (hs : ∀ T, 1 ≤ T → P (nxt T B) → P T) : ∀ T, P T := fun T => by
  have : ∀ (k : Nat) (T : Int), T.toNat ≤ k → P T := fun k => by
    induction k with
    | zero => exact fun T h => h0 T (by omega)
    | succ k ih =>
      intro T h
      by_cases c : T ≤ 0
      · exact h0 T c
      · have l := nxt_lt (T := T) (B := B) (by omega)
        exact hs T (by omega) (ih _ (by omega))
  exact this _ T (Nat.le_refl _)
theorem upF_rel {T B t b : Int} (hT : 1 ≤ T) (ht : 1 ≤ t) (hB : 1 ≤ B) (hb : 1 ≤ b) (e : T * b = t * B) : upF B T = upF b t := by
  have a1 := upF_hi (B := b) ht
  have a2 := upF_lo (B := b) ht
  generalize upF b t = n at *
  refine upF_uniq hT ?_ ?_
  · refine Int.lt_of_mul_lt_mul_right (a := b) ?_ (by omega)
    have : (n - 1) * T * b = (n - 1) * t * B := by rw [Int.mul_assoc, e, ← Int.mul_assoc]
    rw [this, Int.mul_comm B b]
    exact Int.mul_lt_mul_of_pos_right a2 (by omega)
  · refine Int.le_of_mul_le_mul_right (a := b) ?_ (by omega)
    have : n * T * b = n * t * B := by rw [Int.mul_assoc, e, ← Int.mul_assoc]
    rw [this, Int.mul_comm B b]
    exact Int.mul_le_mul_of_nonneg_right a1 (by omega)
theorem rfs_rel {B b : Int} (hB : 1 ≤ B) (hb : 1 ≤ b) : ∀ (T t : Int), 0 ≤ T → 0 ≤ t → T * b = t * B → rfs T B = rfs t b := by
  refine rfs_ind (B := B) (fun T => ∀ t, 0 ≤ T → 0 ≤ t → T * b = t * B → rfs T B = rfs t b) (fun T h t h0 h1 e => ?_) (fun T h ih t h0 h1 e => ?_)
  · have z : T = 0 := by omega
    subst z
    rw [Int.zero_mul] at e
    have zt : t = 0 := (Int.mul_eq_zero.mp e.symm).resolve_right (by omega)
    subst zt
    rw [rfs_nil (Int.le_refl 0), rfs_nil (Int.le_refl 0)]
  · have ht : 1 ≤ t := by
      by_cases z : t = 0
      · rw [z, Int.zero_mul] at e
        have := Int.mul_pos (a := T) (b := b) (by omega) (by omega)
        omega
      · omega
    have eu := upF_rel h ht hB hb e
    rw [rfs_cons h, rfs_cons ht, eu]
    congr 1
    refine ih _ (nxt_nn h) (nxt_nn ht) ?_
    unfold nxt
    rw [eu, Int.sub_mul, Int.sub_mul, Int.mul_right_comm, e, Int.mul_right_comm, Int.mul_comm b B]
/-- each is two or more, none falls, none above B -/
theorem rfs_low {B : Int} (hB : 1 ≤ B) : ∀ T, T < B → (∀ n ∈ rfs T B, 2 ≤ n ∧ n ≤ B) ∧ (rfs T B).Pairwise (· ≤ ·) ∧ (1 ≤ T → ∀ n ∈ rfs T B, upF B T ≤ n) := by
  refine rfs_ind (B := B) (fun T => T < B → (∀ n ∈ rfs T B, 2 ≤ n ∧ n ≤ B) ∧ (rfs T B).Pairwise (· ≤ ·) ∧ (1 ≤ T → ∀ n ∈ rfs T B, upF B T ≤ n)) (fun T h _ => ?_) (fun T h ih hT => ?_)
  · rw [rfs_nil h]
    exact ⟨fun _ m => (nomatch m), List.Pairwise.nil, fun _ _ m => (nomatch m)⟩
  · have l := nxt_lt (B := B) h
    obtain ⟨i1, i2, i3⟩ := ih (by omega)
    have up : ∀ n ∈ rfs (nxt T B) B, upF B T ≤ n := fun n hn => by
      by_cases c : 1 ≤ nxt T B
      · have a := i3 c n hn
        have b1 := upF_hi (B := B) c
        have b2 := upF_lo (B := B) h
        have : (upF B T - 1) * nxt T B ≤ (upF B T - 1) * T := Int.mul_le_mul_of_nonneg_left (by omega) (by have := upF_two h hT; omega)
        have : (upF B T - 1) * nxt T B < upF B (nxt T B) * nxt T B := by omega
        have := Int.lt_of_mul_lt_mul_right this (by omega)
        omega
      · rw [rfs_nil (by omega)] at hn
        cases hn
    rw [rfs_cons h]
    refine ⟨fun n hn => ?_, List.pairwise_cons.mpr ⟨up, i2⟩, fun _ n hn => ?_⟩
    · rcases List.mem_cons.mp hn with rfl | m
      · exact ⟨upF_two h hT, upF_le h hB⟩
      · exact i1 n m
    · rcases List.mem_cons.mp hn with rfl | m
      · exact Int.le_refl _
      · exact up n m
theorem rfs_len {B : Int} : ∀ T, 0 ≤ T → ((rfs T B).length : Int) ≤ T := by
  refine rfs_ind (B := B) (fun T => 0 ≤ T → ((rfs T B).length : Int) ≤ T) (fun T h h0 => ?_) (fun T h ih _ => ?_)
  · rw [rfs_nil h]
    exact h0
  · have l := nxt_lt (B := B) h
    have := ih (nxt_nn h)
    rw [rfs_cons h, List.length_cons]
    omega

--: math = sz
/-! ### the text of a number -/
theorem ns_none {K : PySem.W.Frag} {h : Heap} {a : Addr} {m : Str → Option Value} {n : Str} (X : K.In h) (G : h.Ns a m) (e : PySem.W.nsIn K a n = some none) : m n = none := by
  obtain ⟨o, rows, fill, there, isD, _, says⟩ := G
  revert e
  unfold PySem.W.nsIn
  split
  · rename_i q
    have q := (X _ _ q).symm.trans there
    cases q
    cases isD
    intro e
    split at e
    · cases e
    · rename_i none
      rw [← says, nsFind, PySem.findBy, ← Array.find?_toList, none]
      rfl
  · exact fun e => nomatch e
/-- str(n), below the line that the interpreter draws -/
theorem call_str_big {X : Cx} (hc : X.calm = true) (hd : PySem.W.nsIn X.K cStatics "sys.int_max_str_digits" = some none) : CallR X (.type "str") (fun xs H Q => ∃ i, xs = [.int i] ∧ i.natAbs < 10 ^ 4300 ∧ Q (.str (toString i)) H) := by
  intro pins s σ H xs us Q I r h
  obtain ⟨i, rfl, hz, q⟩ := h
  obtain ⟨u, rfl, t, rfl⟩ := vals1 r
  obtain ⟨mc, ns, _⟩ := I.nolimit
  exact str_of_int_or (I.ok.hd hc) ⟨mc, ns, ns_none I.kIn ns hd⟩ (fun _ => ⟨.str _, H, I.tok _, ⟨_, rfl⟩, q⟩) (fun z => absurd hz (Nat.not_lt.mpr z))
/-- how many signs a number has -/
def slen (i : Int) : Nat := (Str.ofString (toString i)).length
theorem slen_le {i : Int} (h : 0 ≤ i) {k : Nat} (hk : 0 < k) : slen i ≤ k ↔ i.natAbs < 10 ^ k := by
  obtain ⟨n, rfl⟩ := Int.eq_ofNat_of_zero_le h
  unfold slen
  rw [PySem.ofString_length]
  exact Nat.length_repr_le_iff hk
theorem ten400 : (10 ^ 400 : Nat) < 2 ^ 1330 := by decide +kernel
theorem big4300 : (2 ^ 2700 : Nat) < 10 ^ 4300 := by decide +kernel
/-- more than 400 figures -/
def Big (i : Int) : Prop := 400 < slen i
instance (i : Int) : Decidable (Big i) := inferInstanceAs (Decidable (400 < slen i))
theorem not_big {i : Int} (h : 0 ≤ i) (b : ¬ Big i) : Sz 1330 i := Nat.lt_trans ((slen_le h (by decide)).mp (Nat.not_lt.mp b)) ten400
theorem slen_fits {i : Int} (h : 0 ≤ i) (z : Sz 2700 i) : slen i ≤ sizeLine := Nat.le_trans ((slen_le (k := 4300) h (by decide)).mpr (Nat.lt_trans z big4300)) (szl (by decide))
theorem big_dec {i : Int} : decide ((400 : Int) < ((Str.ofString (toString i)).length : Int)) = decide (Big i) := by
  refine decide_eq_decide.mpr ?_
  unfold Big slen
  omega

--: math = rf
--: math = digits
/-! ### the greatest share first -/
/-- what is left, in lowest terms -/
def lft (T B : Int) : Int × Int := low (nxt T B) (B * upF B T)
/-- the shares, or None where one has too great a number -/
def gw : Nat → Int → Int → Option (List Int)
  | 0, _, _ => some []
  | k + 1, T, B => if T ≤ 0 then some [] else if Big (upF B T) then none else (gw k (lft T B).1 (lft T B).2).map (upF B T :: ·)
def gws (T B : Int) : Option (List Int) := gw T.toNat T B
theorem lft_b {T B : Int} (h : 1 ≤ T) (hB : 1 ≤ B) : 1 ≤ (lft T B).2 := low_bpos (Int.mul_pos (by omega) (by have := upF_pos (B := B) (T := T) h hB; omega))
theorem lft_nn {T B : Int} (h : 1 ≤ T) (hB : 1 ≤ B) : 0 ≤ (lft T B).1 := low_tnn (Int.mul_pos (by omega) (by have := upF_pos (B := B) (T := T) h hB; omega)) (nxt_nn h)
theorem lft_lt {T B : Int} (h : 1 ≤ T) : (lft T B).1 < T := Int.lt_of_le_of_lt (low_tle (nxt_nn h)) (nxt_lt h)
theorem lft_cross (T B : Int) : nxt T B * (lft T B).2 = (lft T B).1 * (B * upF B T) := low_cross _ _
theorem lft_below {T B : Int} (h : 1 ≤ T) (hB : 1 ≤ B) (hT : T < B) : (lft T B).1 < (lft T B).2 := by
  have s2 := upF_two h hT
  have l := nxt_lt (B := B) h
  have c := lft_cross T B
  have p := lft_b h hB
  have q : 0 < B * upF B T := Int.mul_pos (by omega) (by omega)
  refine Int.lt_of_mul_lt_mul_right (a := B * upF B T) ?_ (by omega)
  rw [← c, Int.mul_comm]
  refine Int.mul_lt_mul_of_pos_left ?_ (by omega)
  have : B * 1 ≤ B * upF B T := Int.mul_le_mul_of_nonneg_left (by omega) (by omega)
  omega
/-- behind a share n the next one's number is above n * (n - 1) -/
theorem lft_grow {T B : Int} (h : 1 ≤ T) (hB : 1 ≤ B) (hT : T < B) (hl : 1 ≤ (lft T B).1) : upF B T * (upF B T - 1) < upF (lft T B).2 (lft T B).1 := by
  have lo := upF_lo (B := B) h
  have s2 := upF_two h hT
  have c := lft_cross T B
  have hi := upF_hi (B := (lft T B).2) hl
  generalize upF (lft T B).2 (lft T B).1 = m at *
  generalize (lft T B).1 = T' at *
  have b1 := lft_b h hB
  generalize (lft T B).2 = B' at *
  have nx : nxt T B = T * upF B T - B := rfl
  generalize upF B T = n at *
  rw [nx] at c
  -- (T n - B) B' = T' B n, B' <= m T', (n - 1) T < B
  have np : 0 < T * n - B := by
    by_cases z : 0 < T * n - B
    · exact z
    · have a : (T * n - B) * B' ≤ 0 := Int.mul_nonpos_of_nonpos_of_nonneg (by omega) (by omega)
      have b : 0 < T' * (B * n) := Int.mul_pos (by omega) (Int.mul_pos (by omega) (by omega))
      omega
  have k : n * (n - 1) * ((T * n - B) * B') < m * ((T * n - B) * B') := by
    have e1 : m * ((T * n - B) * B') = m * T' * (B * n) := by rw [c, Int.mul_assoc]
    have e2 : n * (n - 1) * ((T * n - B) * B') = (n - 1) * (T * n - B) * (B' * n) := by
      simp only [Int.mul_comm, Int.mul_left_comm, Int.mul_assoc]
    rw [e1, e2]
    have e3 : (n - 1) * (T * n - B) < B := by
      have : (n - 1) * (T * n - B) = n * ((n - 1) * T) - (n - 1) * B := by
        rw [Int.mul_sub]
        congr 1
        simp only [Int.mul_comm, Int.mul_left_comm, Int.mul_assoc]
      have q1 : n * ((n - 1) * T) < n * B := Int.mul_lt_mul_of_pos_left lo (by omega)
      have q2 : (n - 1) * B = n * B - B := by rw [Int.sub_mul, Int.one_mul]
      omega
    have e4 : (n - 1) * (T * n - B) * (B' * n) < B * (B' * n) := Int.mul_lt_mul_of_pos_right e3 (Int.mul_pos (by omega) (by omega))
    have e5 : B * (B' * n) ≤ m * T' * (B * n) := by
      have : B * (B' * n) = B' * (B * n) := by simp only [Int.mul_comm, Int.mul_left_comm, Int.mul_assoc]
      rw [this]
      exact Int.mul_le_mul_of_nonneg_right hi (Int.mul_nonneg (by omega) (by omega))
    omega
  exact Int.lt_of_mul_lt_mul_right k (Int.le_of_lt (Int.mul_pos np (by omega)))
theorem gw_fuel : ∀ (k : Nat) (T B : Int), T.toNat ≤ k → gw k T B = gw T.toNat T B
  | 0, T, B, h => by
    have e : T.toNat = 0 := by omega
    rw [e]
  | k + 1, T, B, h => by
    by_cases c : T ≤ 0
    · have e : T.toNat = 0 := by omega
      rw [e]
      show (if T ≤ 0 then some [] else _) = _
      rw [if_pos c] <;> rfl
    · obtain ⟨m, em⟩ : ∃ m, T.toNat = m + 1 := ⟨T.toNat - 1, by omega⟩
      have l := lft_lt (T := T) (B := B) (by omega)
      rw [em]
      show (if T ≤ 0 then some [] else if Big (upF B T) then none else (gw k (lft T B).1 (lft T B).2).map (upF B T :: ·)) = (if T ≤ 0 then some [] else if Big (upF B T) then none else (gw m (lft T B).1 (lft T B).2).map (upF B T :: ·))
      rw [gw_fuel k (lft T B).1 (lft T B).2 (by omega), gw_fuel m (lft T B).1 (lft T B).2 (by omega)]
theorem gws_nil {T B : Int} (h : T ≤ 0) : gws T B = some [] := by
  have e : T.toNat = 0 := by omega
  unfold gws
  rw [e] <;> rfl
theorem gws_step {T B : Int} (h : 1 ≤ T) : gws T B = if Big (upF B T) then none else (gws (lft T B).1 (lft T B).2).map (upF B T :: ·) := by
  obtain ⟨m, em⟩ : ∃ m, T.toNat = m + 1 := ⟨T.toNat - 1, by omega⟩
  have l := lft_lt (T := T) (B := B) h
  unfold gws
  rw [em]
  show (if T ≤ 0 then some [] else if Big (upF B T) then none else (gw m (lft T B).1 (lft T B).2).map (upF B T :: ·)) = _
  rw [if_neg (by omega), gw_fuel m (lft T B).1 (lft T B).2 (by omega)]
theorem gws_big {T B : Int} (h : 1 ≤ T) (b : Big (upF B T)) : gws T B = none := by rw [gws_step h, if_pos b]
theorem gws_cons {T B : Int} (h : 1 ≤ T) (b : ¬ Big (upF B T)) : gws T B = (gws (lft T B).1 (lft T B).2).map (upF B T :: ·) := by rw [gws_step h, if_neg b]
/-- by what is left, while no number is too great -/
theorem gws_ind (P : Int → Int → List Int → Prop) (h0 : ∀ T B, T ≤ 0 → 1 ≤ B → P T B []) (hs : ∀ T B xs, 1 ≤ T → T < B → ¬ Big (upF B T) → gws (lft T B).1 (lft T B).2 = some xs → P (lft T B).1 (lft T B).2 xs → P T B (upF B T :: xs)) :
    ∀ T B xs, 1 ≤ B → T < B → gws T B = some xs → P T B xs := fun T B xs => by
  have : ∀ (k : Nat) (T B : Int) (xs : List Int), T.toNat ≤ k → 1 ≤ B → T < B → gws T B = some xs → P T B xs := fun k => by
    induction k with
    | zero =>
      intro T B xs h hB _ e
      rw [gws_nil (by omega)] at e
      cases e
      exact h0 T B (by omega) hB
    | succ k ih =>
      intro T B xs h hB hT e
      by_cases c : T ≤ 0
      · rw [gws_nil c] at e
        cases e
        exact h0 T B c hB
      · have l := lft_lt (T := T) (B := B) (by omega)
        by_cases b : Big (upF B T)
        · rw [gws_big (by omega) b] at e
          cases e
        · rw [gws_cons (by omega) b] at e
          cases g : gws (lft T B).1 (lft T B).2 with
          | none =>
            rw [g] at e
            cases e
          | some ys =>
            rw [g] at e
            cases e
            exact hs T B ys (by omega) hT b g (ih _ _ _ (by omega) (lft_b (by omega) hB) (lft_below (by omega) hB hT) g)
  exact this _ T B xs (Nat.le_refl _)
theorem gws_len : ∀ T B xs, 1 ≤ B → T < B → gws T B = some xs → 0 ≤ T → (xs.length : Int) ≤ T := by
  refine gws_ind (fun T B xs => 0 ≤ T → (xs.length : Int) ≤ T) (fun T B h _ h0 => h0) (fun T B xs h hT _ _ ih _ => ?_)
  have l := lft_lt (T := T) (B := B) h
  have := ih (lft_nn h (by omega))
  rw [List.length_cons]
  omega
/-- each two or more, and each above n * (n - 1) for the n ahead -/
def Grows : List Int → Prop
  | x :: y :: r => x * (x - 1) < y ∧ Grows (y :: r)
  | _ => True
theorem gws_first {T B : Int} {x : Int} {xs : List Int} (e : gws T B = some (x :: xs)) : 1 ≤ T ∧ x = upF B T := by
  by_cases c : T ≤ 0
  · rw [gws_nil c] at e
    cases e
  · have c : 1 ≤ T := by omega
    refine ⟨c, ?_⟩
    by_cases b : Big (upF B T)
    · rw [gws_big c b] at e
      cases e
    · rw [gws_cons c b] at e
      cases g : gws (lft T B).1 (lft T B).2 with
      | none =>
        rw [g] at e
        cases e
      | some ys =>
        rw [g] at e
        cases e
        rfl
theorem gws_grows : ∀ T B xs, 1 ≤ B → T < B → gws T B = some xs → (∀ x ∈ xs, 2 ≤ x) ∧ Grows xs := by
  refine gws_ind (fun T B xs => (∀ x ∈ xs, 2 ≤ x) ∧ Grows xs) (fun T B h _ => ⟨fun _ m => (nomatch m), True.intro⟩) (fun T B xs h hT b g ih => ?_)
  refine ⟨fun x m => ?_, ?_⟩
  · rcases List.mem_cons.mp m with rfl | m
    · exact upF_two h hT
    · exact ih.1 x m
  · cases xs with
    | nil => exact True.intro
    | cons y r =>
      obtain ⟨l1, rfl⟩ := gws_first g
      exact ⟨lft_grow h (by omega) hT l1, ih.2⟩
theorem grows_at : ∀ {xs : List Int} {j : Nat} {x y : Int}, Grows xs → xs[j]? = some x → xs[j + 1]? = some y → x * (x - 1) < y
  | [], _, _, _, _, e, _ => nomatch e
  | [a], 0, _, _, _, _, e => nomatch e
  | [a], j + 1, _, _, _, e, _ => nomatch e
  | a :: b :: r, 0, x, y, h, e1, e2 => by
    cases e1
    cases e2
    exact h.1
  | a :: b :: r, j + 1, x, y, h, e1, e2 => grows_at (xs := b :: r) (j := j) h.2 e1 e2
theorem fold_gws : ∀ T B xs, 1 ≤ B → T < B → gws T B = some xs → 0 ≤ T → ∀ u v : Int, (xs.foldl (fun q s => (q.1 * s + q.2, q.2 * s)) (u, v)).1 * (v * B) = (u * B + T * v) * (xs.foldl (fun q s => (q.1 * s + q.2, q.2 * s)) (u, v)).2 := by
  refine gws_ind (fun T B xs => 0 ≤ T → ∀ u v : Int, (xs.foldl (fun q s => (q.1 * s + q.2, q.2 * s)) (u, v)).1 * (v * B) = (u * B + T * v) * (xs.foldl (fun q s => (q.1 * s + q.2, q.2 * s)) (u, v)).2) (fun T B h _ h0 u v => ?_) (fun T B xs h hT b g ih _ u v => ?_)
  · have z : T = 0 := by omega
    subst z
    rw [Int.zero_mul, Int.add_zero]
    show u * (v * B) = u * B * v
    rw [Int.mul_comm v B, Int.mul_assoc u]
  · have n1 := upF_pos (B := B) h (by omega)
    have l1 := lft_b h (by omega : 1 ≤ B)
    have e := ih (lft_nn h (by omega)) (u * upF B T + v) (v * upF B T)
    have c := lft_cross T B
    have nx : nxt T B = T * upF B T - B := rfl
    rw [nx] at c
    show (List.foldl _ (u * upF B T + v, v * upF B T) xs).1 * (v * B) = (u * B + T * v) * (List.foldl _ (u * upF B T + v, v * upF B T) xs).2
    revert e
    generalize List.foldl (fun q s => (q.1 * s + q.2, q.2 * s)) (u * upF B T + v, v * upF B T) xs = X
    generalize (lft T B).1 = T' at *
    generalize (lft T B).2 = B' at *
    generalize upF B T = n at *
    obtain ⟨x, y⟩ := X
    intro e
    have e : x * (v * n * B') = ((u * n + v) * B' + T' * (v * n)) * y := e
    show x * (v * B) = (u * B + T * v) * y
    have pn : 0 < n * B' := Int.mul_pos (by omega) (by omega)
    refine Int.eq_of_mul_eq_mul_right (a := n * B') (by omega) ?_
    have l : x * (v * B) * (n * B') = x * (v * n * B') * B := by
      simp only [Int.mul_comm, Int.mul_left_comm, Int.mul_assoc]
    have k : T' * (v * n) * B = v * ((T * n - B) * B') := by
      rw [c]
      simp only [Int.mul_comm, Int.mul_left_comm, Int.mul_assoc]
    have r : (u * B + T * v) * y * (n * B') = ((u * n + v) * B' + T' * (v * n)) * y * B := by
      have : ((u * n + v) * B' + T' * (v * n)) * y * B = ((u * n + v) * B' * B + T' * (v * n) * B) * y := by
        rw [Int.mul_right_comm, Int.add_mul ((u * n + v) * B')]
      rw [this, k]
      simp only [Int.add_mul, Int.mul_sub, Int.sub_mul]
      simp only [Int.mul_comm, Int.mul_left_comm, Int.mul_assoc]
      omega
    rw [l, r, e]
theorem low_gws {T B : Int} {xs : List Int} (hB : 1 ≤ B) (hT : T < B) (h0 : 0 ≤ T) (e : gws T B = some xs) (h : Pos xs) : lowS xs = low T B := by
  have e := fold_gws T B xs hB hT e h0 0 1
  have b := (sumS_pos _ h).2.1
  refine low_uniq (by omega) (by omega) ?_
  have e : (sumS xs).1 * (1 * B) = (0 * B + T * 1) * (sumS xs).2 := e
  rw [Int.zero_mul, Int.mul_one, Int.one_mul, Int.zero_add] at e
  exact e
theorem gws_sz : ∀ T B xs, 1 ≤ B → T < B → gws T B = some xs → ∀ u v : Int, 1 ≤ v → Sz 2660 v → (1 ≤ T → v < upF B T) → Sz 2660 (xs.foldl (fun q s => (q.1 * s + q.2, q.2 * s)) (u, v)).2 := by
  refine gws_ind (fun T B xs => ∀ u v : Int, 1 ≤ v → Sz 2660 v → (1 ≤ T → v < upF B T) → Sz 2660 (xs.foldl (fun q s => (q.1 * s + q.2, q.2 * s)) (u, v)).2) (fun T B h _ u v _ z _ => z) (fun T B xs h hT b g ih u v v1 z hv => ?_)
  have n1 := upF_pos (B := B) h (by omega)
  have zs := not_big (by omega) b
  have hv := hv h
  have zv : Sz 1330 v := zs.le (by omega) (by omega)
  refine ih (u * upF B T + v) (v * upF B T) (Int.mul_pos (by omega) (by omega)) (zv.mul zs) (fun l1 => ?_)
  have g := lft_grow h (by omega) hT l1
  have : v * upF B T ≤ upF B T * (upF B T - 1) := by
    rw [Int.mul_comm]
    exact Int.mul_le_mul_of_nonneg_left (by omega) (by omega)
  omega
theorem gws_ok {T B : Int} {xs : List Int} (hB : 1 ≤ B) (hT : T < B) (h1 : T ≤ 1000) (e : gws T B = some xs) : SumOk xs where
  pos := fun x hx => by
    have := (gws_grows T B xs hB hT e).1 x hx
    omega
  sz := (gws_sz T B xs hB hT e 0 1 (by decide) Sz.one (fun h => by have := upF_two h hT; omega) : Sz 2660 (sumS xs).2).mono
  len := by
    by_cases c : T ≤ 0
    · rw [gws_nil c] at e
      cases e
      exact Nat.zero_le _
    · have := gws_len T B xs hB hT e (by omega)
      omega
/-- sizes on the way -/
theorem lft_sz {T B : Int} (h : 1 ≤ T) (hB : 1 ≤ B) (hT : T ≤ 1000) (b : ¬ Big (upF B T)) : Sz 1340 B ∧ Sz 1330 (upF B T) ∧ Sz 2670 (lft T B).2 ∧ (lft T B).1 ≤ 1000 := by
  have n1 := upF_pos (B := B) h hB
  have zs := not_big (by omega) b
  have zT : Sz 10 T := by
    show T.natAbs < 1024
    omega
  have zB : Sz 1340 B := (zs.mul zT).le (by omega) (upF_hi h)
  refine ⟨zB, zs, (zB.mul zs).le (by have := lft_b h hB; omega) (low_ble (Int.mul_pos (by omega) (by omega))), ?_⟩
  have := lft_lt (T := T) (B := B) h
  omega
/-- the law's own ceiling -/
theorem up_law {T B : Int} (h : 1 ≤ T) : (if B / T * T < B then B / T + 1 else B / T) = upF B T := by
  have e := Int.emod_add_mul_ediv B T
  have m1 := Int.emod_nonneg B (b := T) (by omega)
  have m2 := Int.emod_lt_of_pos B (b := T) (by omega)
  rw [Int.mul_comm] at e
  refine (upF_uniq h ?_ ?_).symm
  · split
    · rw [show B / T + 1 - 1 = B / T by omega]
      assumption
    · rw [Int.sub_mul]
      omega
  · split
    · rw [Int.add_mul]
      omega
    · omega

/-! ### a def that is called where an exception is handled, with that exception; it raises nothing -/
/-- what is asked, by the exception's address, class and dict -/
abbrev SpE := Addr → Value → Option Addr → Sp
structure FnE (P : Program) (w : World) (K : PySem.W.Frag) (mg : Str → Option Value) (base : Heap) (k : Nat) (f : Addr) (fd : FuncData) (ps : List Str) (sp : SpE) : Prop where
  len : ∀ a cls d vs H Q E, sp a cls d vs H Q E → vs.length = ps.length
  run : ∀ (A : Around) (outer : List Env) (s : Shared) (H : Hp) (args : Args) (us : List Value) (vs : List V) (Q : VK) (E : XK) (a : Addr) (oe : Obj) (cls : Value) (d : Option Addr), L2H.RoomH k A → Zc cls d oe → (∃ fs, oe.data = .fields fs) →
    L2H.PinOk outer H s (a, oe) → Env0 P w K mg base A outer s H → BindsTo s fd args (ps.zip us) → Vals vs us → sp a cls d vs H Q E → codeAny (model P w) A (.call (.ref f) args) (CR CX0 outer P w H s Q E) s
/-- how the def x stands and keeps such a promise -/
def KeepsE (P : Program) (w : World) (K : PySem.W.Frag) (mg : Str → Option Value) (base : Heap) (k : Nat) (x : Str) (ps : List Str) (sp : SpE) : Prop :=
  ∃ f fd, FnE P w K mg base k f fd ps sp ∧ Binds K fd ps [] ∧ mg x = some (.ref f) ∧ PySem.W.keepIn K (.ref f) = true
section
variable {P : Program} {w : World} {K : PySem.W.Frag} {mg : Str → Option Value} {base : Heap}
theorem fnE_of {x : Str} {st : Stmt} {f : Addr} {fd : FuncData} {N ps : List Str} {k : Nat} {sp : SpE} (F : Fun K x x st f fd) (S : FnScope N ps (defScope st)) (len : ∀ a cls d vs H Q E, sp a cls d vs H Q E → vs.length = ps.length)
    (body : ∀ (cdv : Value) (A : Around) (outer : List Env) (s : Shared) (H : Hp) (vs : List V) (Q : VK) (E : XK) (a : Addr) (oe : Obj) (cls : Value) (d : Option Addr), Zc cls d oe → (∃ fs, oe.data = .fields fs) → sp a cls d vs H Q E →
      ∃ t, PSs (L2H.cxH CX0 P w K mg base N x (defScope st) f cdv A outer s H E (a, oe)) (defBody st) t ∧ t { nx := fun _ H' => Q .non H', rt := Q } (L2.start N vs) H) : FnE P w K mg base (k + 1) f fd ps sp := by
  obtain ⟨oc, od, kV, doc, pm, an, cdv, ct, osl, rfl, look, code⟩ := F.ex
  refine ⟨len, fun A outer s H args us vs Q E a oe cls d room hz hf pin e0 binds rel want => ?_⟩
  have inK : K.In s.heap := e0.mod.kin.keeps fun b o e => (e0.bs b o e).1
  have unlim : s.heap.NoLimit := e0.mod.nolimit.keeps fun b o e => (e0.bs b o e).1
  have kinds : ∀ y ∈ ps.zip us, (defScope st).names.lookup y.1 = some .local ∨ ((defScope st).names.lookup y.1 = some .cell ∧ ((cellsFrom (s.heap.objs.size + 1) (defScope st).names []).lookup y.1).isSome = true) := by
    rintro ⟨n, v⟩ hy
    rcases S.par n (List.of_mem_zip hy).1 with q | q
    · exact .inl q
    · exact .inr ⟨q, PySem.W.cellsFrom_some _ _ _ (.inl q)⟩
  refine codeAny_call_function room.depth (inK _ _ look) rfl S.co S.gen rfl (PySem.W.codeRec_of inK code) (binds _ _ _ _ ?_)
  refine wpAny_newFunctionEnv_cells S.kind kinds fun env isEnv s1 inCall => ?_
  subst isEnv
  refine ⟨unlim.keeps inCall.toInCall.keep, codeAny_func ?_⟩
  obtain ⟨t, walks, tq⟩ := body cdv A outer s H vs Q E a oe cls d hz hf want
  have I := L2H.inv_startH (CX := CX0) (E := E) S pin e0 (len _ _ _ _ _ _ _ want) rel inCall
  refine wpAny_mono (walks.run [] s1 _ H _ I tq) (fun fl s' ends => ?_) fun e s' ends => ends
  cases fl with
  | ret u =>
    obtain ⟨v, σ', H', J, rv, q⟩ := ends
    exact ⟨v, H', J.os, J.bare, J.base, J.hok, rv, q⟩
  | next =>
    obtain ⟨σ', H', J, q⟩ := ends
    exact ⟨V.non, H', J.os, J.bare, J.base, J.hok, rfl, q⟩
  | brk =>
    obtain ⟨_, _, _, q⟩ := ends
    cases q
  | cont =>
    obtain ⟨_, _, _, q⟩ := ends
    cases q
end
def tCallE (sp : Sp) (t : TA) : TE := fun σ H Q => t σ H fun vs H1 => sp vs H1 Q fun _ _ _ => False
theorem pe_callE {X : Cx} {k : Nat} {f a : Addr} {fd : FuncData} {ps : List Str} {sp : SpE} {x : Str} {p pos : PySem.Pos} {e : Expr} {es : List Expr} {t : TA} {oe : Obj} {cls : Value} {d : Option Addr}
    (F : FnE X.prog X.w X.K X.mg X.base k f fd ps sp) (hr : L2H.RoomH k X.A) (hin : (a, oe) ∈ X.pn) (hz : Zc cls d oe) (hf : ∃ fs, oe.data = .fields fs) (hg : Gl X x) (hm : X.mg x = some (.ref f)) (hk : PySem.W.keepIn X.K (.ref f) = true)
    (hb : Binds X.K fd ps []) (ha : PA X (e :: es) t) (hdb : (x == ("__debug__" : Str)) = false := by decide) (he : starEach (e :: es) X.env = (false, eval e X.env) :: starEach es X.env := by rfl) (hpl : (backTo pos (starEach es X.env)).any (·.1) = false := by rfl) :
    PE X (.Call (.Name x p) (e :: es) [] pos) (tCallE (sp a cls d) t) := by
  refine ⟨fun pins s σ H Q I h => wpAny_Call_Name_kw (ld_glob I hg hm ?_ hdb)⟩
  refine PySem.W.callWith_K (h₀ := X.base) I.ok.mod.kin hk (thn (ha.run pos pins s σ H _ I h) fun us s1 ⟨vs, H1, I1, rel, q⟩ => ⟨I1.kIn, ?_⟩) he hpl
  have lens : us.length = ps.length := rel.length.symm.trans (F.len _ _ _ _ _ _ _ q)
  have bind := hb s1 us I1.kIn (by rw [List.append_nil]; exact lens)
  rw [List.append_nil] at bind
  have at1 := I1.pin (a, oe) (List.mem_append_left _ hin)
  have pinned : L2H.PinOk X.stack H1 s1 (a, oe) := ⟨at1.1, at1.2.1, fun m => (List.mem_cons.mp (I1.stkSub a m)).elim at1.2.2.1 at1.2.2.2.1, at1.2.2.2.2⟩
  refine wpAny_call (codeAny_mono (F.run X.A X.stack s1 H1 ⟨us, []⟩ us vs Q _ a oe cls d hr hz hf pinned I1.env0 bind rel q) fun r s' ends => ?_)
  cases r with
  | error e => cases ends
  | ok fl =>
    cases fl with
    | ret u => exact I1.after ends
    | next => cases ends
    | brk => cases ends
    | cont => cases ends
/-- isinstance(e, c), e an exception that the context holds -/
theorem call_isP {X : Cx} {a D : Addr} {oe : Obj} (hin : (a, oe) ∈ X.pn) (C : ExcC X.K D) (hz : Zc (.ref D) none oe) (hf : ∃ fs, oe.data = .fields fs) : CallR X (.builtin "isinstance") (rIsE X.K D a) := by
  intro pins s σ H xs us Q I rel h
  obtain ⟨c, cv, b, rfl, hcv, e, q⟩ := h
  obtain ⟨u, us, rfl, rx, rel⟩ : ∃ u r, us = u :: r ∧ RelV (.ref a) u ∧ Vals [c] r := by
    cases rel with
    | cons rx rr => exact ⟨_, _, rfl, rx, rr⟩
  obtain ⟨u2, rfl, rc⟩ := vals1 rel
  cases rx
  obtain rfl := hcv _ rc
  obtain ⟨there, _⟩ := I.pin (a, oe) (List.mem_append.mpr (.inl hin))
  obtain ⟨fs, isF⟩ := hf
  have inst : PySem.W.InstAt s.heap a oe D none := by
    obtain ⟨oc, od, oda, osl⟩ := oe
    obtain ⟨h1, h2⟩ := hz
    dsimp only at h1 h2 isF
    subst h1 h2 isF
    exact ⟨there, rfl, rfl, trivial⟩
  exact PySem.W.kia_one (PySem.W.handS_kitx_exc C.hg C.hk C.hs C.hd C.ha C.hn C.ht C.hm) I.kIn inst e (fun z => nomatch z) fun tk => ⟨.bl b, H, I.kept (t' := tk) fun _ _ z => z, rfl, q⟩
theorem roomE {j k : Nat} {A : Around} {h : Option Value} (r : Room k A) (l : j ≤ k) : L2H.RoomH j (A.mark h) := ⟨(r.mono l).dp, (r.mono l).un⟩
/-- isinstance of an own class, told by the classes above -/
theorem kit_refs {K : PySem.W.Frag} {D C : Addr} {b : Bool} (hd : PySem.W.hasDictIn K C = true) (ht : PySem.W.typeIn K (.ref C) = some (.type "type")) (hs : PySem.W.subIn K (.ref D) (.ref C) = some b) (self : PySem.W.subIn K (.ref D) (.ref D) = some true) :
    PySem.W.kitOne K (.ref D) (.ref C) = some b := by
  unfold PySem.W.kitOne
  split
  · rename_i q
    cases (eq_of_beq q : Value.ref D = Value.ref C)
    rw [hs] at self
    exact self.symm
  · obtain ⟨cd, hc, _⟩ := PySem.W.any_some hd
    have e : ((PySem.W.clsIn K C).isSome && PySem.W.typeIn K (.ref C) == some (.type "type")) = true := by rw [hc, ht] <;> rfl
    show (if ((PySem.W.clsIn K C).isSome && PySem.W.typeIn K (.ref C) == some (.type "type")) = true then PySem.W.subIn K (.ref D) (.ref C) else none) = some b
    rw [if_pos e]
    exact hs
theorem meta_ve : PySem.W.kitMeta "ValueError" = true := by decide +kernel
theorem kit_ve {K : PySem.W.Frag} {D : Addr} {b : Bool} (hs : PySem.W.subIn K (.ref D) (.type "ValueError") = some b) : PySem.W.kitOne K (.ref D) (.type "ValueError") = some b := by
  unfold PySem.W.kitOne
  rw [if_neg (fun z => nomatch (eq_of_beq z : Value.ref D = Value.type "ValueError"))]
  show (if PySem.W.kitMeta "ValueError" = true then PySem.W.subIn K (.ref D) (.type "ValueError") else none) = some b
  rw [if_pos meta_ve]
  exact hs

/-! ### set(xs) of a list of ints -/
section
variable {P : Program} {w : World} {A : Around} {E : Value → Shared → Prop}
/-- a set that was just made -/
abbrev bare (w : World) : Obj := { cls := .type "set", dict := none, data := .set #[] 0 (.fresh 0 0 (!w.params.followText "set-order")) }
/-- what set.__init__ leaves of s, the set at a: it holds the ints, all of g is kept -/
def Filled (w : World) (s : Shared) (g : Heap) (a : Addr) (ns : List Int) (v : Value) (s' : Shared) : Prop :=
  v = .none ∧ ∃ h tk c, s' = { s with heap := h, toks := tk } ∧ SetR w h a (fun j => decide (j ∈ ns)) c ∧ c ≤ ns.length ∧ ∀ b o, g.get? b = some o → h.get? b = some o
/-- the filling, over the list's own iterator -/
theorem fill_list {g : Heap} {s : Shared} {l : Addr} {its : Array Value} {ns : List Int} (hs : s.heap = (g.push (bare w)).push { cls := .type "list_iterator", data := .fields #[.ref l, .int 0 0] }) (hh : A.handled = none)
    (hl : g.IsList l its) (hi : IntsAre its.toList ns) (hn : its.size = ns.length) (hb : ns.length + 1 < scanBound) {R : Result → Shared → Prop} (hr : ∀ s', Filled w s g g.objs.size ns .none s' → R (.ok (.ret .none)) s') :
    codeAny (model P w) A (.builtin "set.update.loop" ⟨[.ref g.objs.size, .ref (g.objs.size + 1)], []⟩) R s := by
  have lt : l < g.objs.size := by
    obtain ⟨o, e, _⟩ := hl
    exact Heap.lt_size e
  have z1 : (g.push (bare w)).objs.size = g.objs.size + 1 := Heap.size_push ..
  have a0 : (g.push (bare w)).get? g.objs.size = some (bare w) := Heap.get?_push_size _ rfl
  have apart : g.objs.size ∉ [g.objs.size + 1, l] := by
    intro m
    rcases List.mem_cons.mp m with e | m
    · exact Nat.ne_of_lt (Nat.lt_succ_self _) e
    · exact Nat.ne_of_gt lt (List.mem_singleton.mp m)
  have val : ∀ (i : Nat) (v : Value), its[i]? = some v → ∃ k t, ns[i]? = some k ∧ v = .int k t := fun i v e => by
    have hi' : i < ns.length := hn ▸ (Array.getElem?_eq_some_iff.mp e).1
    obtain ⟨t, q⟩ := IntsAre.int_at hi i v (by rw [Array.getElem?_toList]; exact e)
    have d : ns.getD i 0 = ns[i] := by rw [List.getD_eq_getElem?_getD, List.getElem?_eq_getElem hi'] <;> rfl
    exact ⟨ns[i], t, List.getElem?_eq_getElem hi', by rw [q, d]⟩
  have hh1 : A.in1.handled = none := hh
  have hl1 : (g.push (bare w)).IsList l its := hl.push _
  obtain ⟨hp, gg, d, tk, os⟩ := s
  have hs : hp = (g.push (bare w)).push { cls := .type "list_iterator", data := .fields #[.ref l, .int 0 0] } := hs
  subst hs
  have W := (Walks.list (prog := P) (w := w) hh1 (g.objs.size + 1) l (Nat.ne_of_lt (Nat.lt_succ_of_lt lt)) its).toS
  refine set_update_ints W g.objs.size apart ns hn hb val (its.size - 0) 0 _ (by omega) (Nat.zero_le _) ?_ ⟨0, Nat.le_refl 0, setR_new_at (Heap.get?_push_of_some _ a0)⟩ fun s' c m hc hR => ?_
  · exact ⟨⟨_, by rw [← z1]; exact Heap.get?_push_size _ rfl, rfl, rfl⟩, hl1.push _⟩
  · obtain ⟨h', g2, d2, tk2, os2⟩ := s'
    cases (m.gens : g2 = gg)
    cases (m.drawn : d2 = d)
    cases (m.os : os2 = os)
    refine hr _ ⟨rfl, h', tk2, c, rfl, hR, hn ▸ hc, fun b o e => ?_⟩
    have hb' := Heap.lt_size e
    refine m.heap b o (fun z => ?_) (Heap.get?_push_of_some _ (Heap.get?_push_of_some _ e))
    rcases List.mem_cons.mp z with z | z
    · exact Nat.ne_of_lt hb' z
    · exact Nat.ne_of_lt (Nat.lt_succ_of_lt hb') (List.mem_singleton.mp z)
set_option maxHeartbeats 3200000 in
theorem init_list {g : Heap} {s : Shared} {l : Addr} {its : Array Value} {ns : List Int} (hs : s.heap = g.push (bare w)) (hh : A.handled = none) (hl : g.IsList l its) (hi : IntsAre its.toList ns) (hn : its.size = ns.length) (hb : ns.length + 1 < scanBound) :
    codeAny (model P w) A (.call (.builtin "set.__init__") ⟨[.ref g.objs.size, .ref l], []⟩) (wants (Filled w s g g.objs.size ns) E) s := by
  have here : s.heap.get? g.objs.size = some (bare w) := by
    rw [hs]
    exact Heap.get?_push_size _ rfl
  have ty : s.TypeIs (.ref g.objs.size) "set" := ⟨_, here, rfl⟩
  have hl1 : s.heap.IsList l its := by
    rw [hs]
    exact hl.push _
  refine codeAny_call_builtin F.called_set.init.plain F.entry_set_init (check_set_init_1 ty ?_)
  obtain ⟨ol, gl, cl, nl, dl⟩ := id hl1
  obtain ⟨ocls, odict, odata, oslots⟩ := ol
  simp only at cl dl
  subst cl dl
  have n1 := F.sub_list_set
  have n2 := F.sub_list_frozenset
  have n3 : (Value.type "list" == Value.type "dict") = false := by decide
  obtain ⟨hp, gg, d, tk, os⟩ := s
  dsimp only at hs here gl hl1 ty
  subst hs
  unfold Builtin.«set.__init__» noKeywords Builtin.Frozenset.updateFrom
  generalize eI : pyIter = it
  wp_walk
  subst eI
  refine wpAny_pyIter_list hl1 ?_
  refine wpAny_bind (wpAny_runValue ?_)
  have z1 : (g.push (bare w)).objs.size = g.objs.size + 1 := Heap.size_push ..
  rw [z1]
  refine fill_list (g := g) rfl (by simpa using hh) hl hi hn hb fun s' f => ?_
  obtain ⟨_, h', tk', c, rfl, r⟩ := f
  show wpAny _ _ _ _ _ _
  refine wpAny_pure ?_
  show wpAny _ _ (ret Value.none) _ _ _
  exact wpAny_pure ⟨rfl, h', tk', c, rfl, r⟩
set_option maxHeartbeats 3200000 in
theorem set_of_list {s : Shared} {l : Addr} {its : Array Value} {ns : List Int} (hh : A.handled = none) (hl : s.heap.IsList l its) (hi : IntsAre its.toList ns) (hb : ns.length + 1 < scanBound) {Q : Value → Shared → Prop}
    (hq : ∀ (h : Heap) (tk c : Nat), SetR w h s.heap.objs.size (fun j => decide (j ∈ ns)) c → c ≤ ns.length → (∀ b o, s.heap.get? b = some o → h.get? b = some o) → Q (.ref s.heap.objs.size) { s with heap := h, toks := tk }) :
    wpAny (model P w) A (call (.type "set") [.ref l]) Q E s := by
  have hn : its.size = ns.length := by
    have q := IntsAre.length hi
    rwa [Array.length_toList] at q
  obtain ⟨c, tl, hmro⟩ := F.called_set.mro
  have f1 := F.called_set.made
  have f2 := F.called_set.sub
  have f3 := F.called_set.notType
  have f4 := F.called_set.canCreate
  have f5 := F.typeCall_set_1 (.ref l)
  refine wpAny_call (codeAny_of_tree ?_)
  show wpAny _ _ (callAny (.type "set") _) _ _ _
  refine wpAny_pure ⟨Code.quiet_builtin _ (by decide +kernel), codeAny_builtin F.entry_type_call ?_⟩
  rw [Around.under_plain (weight_type_call_type "set" [.ref l] []) rfl]
  repeat (any_goals (first | assumption | wp_step))
  refine codeAny_mono (code_set_led1 (w := w) (.ref l) (E := E) (Q₁ := fun u s₁ => u = .ref s.heap.objs.size ∧ s₁ = { s with heap := s.heap.push (bare w) }) ⟨rfl, rfl⟩) fun r s₁ hr => ?_
  cases r with
  | error e => exact hr
  | ok fl =>
    cases fl with
    | ret u =>
      obtain ⟨rfl, rfl⟩ := hr
      have here : (s.heap.push (bare w)).get? s.heap.objs.size = some (bare w) := Heap.get?_push_size _ rfl
      have ty : Shared.TypeIs { s with heap := s.heap.push (bare w) } (.ref s.heap.objs.size) "set" := ⟨_, here, rfl⟩
      have g1 := F.called_set.init.lookup
      have g2 := F.called_set.init.bind (.ref s.heap.objs.size)
      repeat (any_goals (first | assumption | wp_step))
      refine codeAny_mono (init_list (s := { s with heap := s.heap.push (bare w) }) rfl hh hl hi hn hb (E := E)) fun r₂ s₂ h₂ => ?_
      cases r₂ with
      | error e => exact h₂
      | ok f2 =>
        cases f2 with
        | ret v =>
          obtain ⟨rfl, h', tk', c', rfl, hR, hc, hk⟩ := h₂
          repeat (any_goals (first | assumption | wp_step))
          exact hq _ _ _ hR hc hk
        | next => exact h₂.elim
        | brk => exact h₂.elim
        | cont => exact h₂.elim
    | next => exact hr.elim
    | brk => exact hr.elim
    | cont => exact hr.elim
end
/-- set(xs) -/
def rSetL (K : PySem.W.Frag) (w : World) : List V → Hp → VK → Prop := fun vs H Q => ∃ (l : Addr) (ns : List Int), vs = [V.ref l] ∧ SqL K H l (ns.map V.int) ∧ ns.length < 4000 ∧
  ∀ (p : Addr) (c : Nat), H p = none → c ≤ ns.length → Q (.ref p) (upd H p (SetO w p (fun j => decide (j ∈ ns)) c))
theorem cr_setL {X : Cx} (hc : X.calm = true) : CallR X (.type "set") (rSetL X.K X.w) := by
  intro pins s σ H vs us Q I r h
  obtain ⟨l, ns, rfl, hS, hn, q⟩ := h
  obtain ⟨u, rfl, ru⟩ := vals1 r
  cases ru
  obtain ⟨its, rv, pl, hz⟩ := I.list hS
  refine set_of_list (I.ok.hd hc) pl.isList (ns := ns) (by simpa using RZ.intsAre_vals rv) (by unfold scanBound; omega) fun h tk c hR hc' hk => ?_
  exact ⟨.ref _, _, I.laid (t' := tk) (a := s.heap.objs.size) hk (Nat.le_refl _) (setO_new hR), rfl, q _ c (I.hok.fresh (Nat.le_refl _)) hc'⟩

/-! ### pairs of ints, compared -/
theorem dp_pair {K : PySem.W.Frag} {H : Hp} {a : Addr} {t u : Int} (h : SqT K H a [.int t, .int u]) : Dp K H (.ref a) (.tuple [.int t, .int u]) := .tup h (.cons (.int t) (.cons (.int u) .nil))
theorem eqv_pair (t u t' u' : Int) : PyData.eqv (.tuple [.int t, .int u]) (.tuple [.int t', .int u']) = decide (t = t' ∧ u = u') := by
  simp [PyData.eqv, PyData.eqvAll, Bool.decide_and]
  rfl

--: math = setlist
--: math = pairs
/-! ### lists that rise -/
def Ris (xs : List Int) : Prop := xs.Pairwise (· < ·)
instance (xs : List Int) : Decidable (Ris xs) := inferInstanceAs (Decidable (xs.Pairwise _))
theorem ris_uniq : ∀ {a b : List Int}, Ris a → Ris b → (∀ k, k ∈ a ↔ k ∈ b) → a = b
  | [], [], _, _, _ => rfl
  | [], y :: b, _, _, h => absurd ((h y).mpr List.mem_cons_self) (by simp)
  | x :: a, [], _, _, h => absurd ((h x).mp List.mem_cons_self) (by simp)
  | x :: a, y :: b, ha, hb, h => by
    obtain ⟨a1, a2⟩ := List.pairwise_cons.mp ha
    obtain ⟨b1, b2⟩ := List.pairwise_cons.mp hb
    have e : x = y := by
      rcases List.mem_cons.mp ((h x).mp List.mem_cons_self) with e | m
      · exact e
      · rcases List.mem_cons.mp ((h y).mpr List.mem_cons_self) with e | m'
        · exact e.symm
        · have := b1 x m
          have := a1 y m'
          omega
    subst e
    refine congrArg (x :: ·) (ris_uniq a2 b2 fun k => ⟨fun m => ?_, fun m => ?_⟩)
    · rcases List.mem_cons.mp ((h k).mp (List.mem_cons_of_mem _ m)) with e | m'
      · have := a1 k m
        omega
      · exact m'
    · rcases List.mem_cons.mp ((h k).mpr (List.mem_cons_of_mem _ m)) with e | m'
      · have := b1 k m
        omega
      · exact m'
theorem ris_adj {xs : List Int} (h : ∀ (j : Nat) (x y : Int), xs[j]? = some x → xs[j + 1]? = some y → x < y) : Ris xs := by
  refine List.pairwise_iff_getElem.mpr fun i j hi hj hij => ?_
  obtain ⟨d, rfl⟩ : ∃ d, j = i + 1 + d := ⟨j - (i + 1), by omega⟩
  induction d with
  | zero => exact h i _ _ (List.getElem?_eq_getElem hi) (List.getElem?_eq_getElem hj)
  | succ d ih =>
    have h1 := ih (by omega) (by omega)
    have h2 := h (i + 1 + d) _ _ (List.getElem?_eq_getElem (by omega)) (List.getElem?_eq_getElem hj)
    omega
theorem ris_at {xs : List Int} (h : Ris xs) {j : Nat} {x y : Int} (e1 : xs[j]? = some x) (e2 : xs[j + 1]? = some y) : x < y := by
  obtain ⟨h1, rfl⟩ := List.getElem?_eq_some_iff.mp e1
  obtain ⟨h2, rfl⟩ := List.getElem?_eq_some_iff.mp e2
  exact List.pairwise_iff_getElem.mp h j (j + 1) h1 h2 (by omega)
/-! ### data of ints, compared -/
theorem dp_ints {K : PySem.W.Frag} {H : Hp} {a : Addr} {xs : List Int} (h : SqL K H a (xs.map V.int)) : Dp K H (.ref a) (.list (xs.map PyData.int)) := by
  refine .lst h ?_
  clear h
  induction xs with
  | nil => exact .nil
  | cons x xs ih => exact .cons (.int x) ih
theorem eqvAll_ints : ∀ xs ys : List Int, PyData.eqvAll (xs.map PyData.int) (ys.map PyData.int) = decide (xs = ys)
  | [], [] => by simp [PyData.eqvAll]
  | [], y :: ys => by simp [PyData.eqvAll]
  | x :: xs, [] => by simp [PyData.eqvAll]
  | x :: xs, y :: ys => by
    have ih := eqvAll_ints xs ys
    simp only [List.map_cons, PyData.eqvAll, PyData.eqv, ih]
    rw [Bool.eq_iff_iff]
    simp
theorem eqv_ints (xs ys : List Int) : PyData.eqv (.list (xs.map PyData.int)) (.list (ys.map PyData.int)) = decide (xs = ys) := by
  rw [← eqvAll_ints]
  simp only [PyData.eqv]
theorem canLay_ints : ∀ xs : List Int, PyData.canLayAll0 (xs.map PyData.int) = true
  | [] => rfl
  | x :: xs => by
    simp only [List.map_cons, PyData.canLayAll0, PyData.canLay0, canLay_ints xs]
    rfl
theorem depth_ints : ∀ xs : List Int, PyData.depthAll (xs.map PyData.int) = 0
  | [] => rfl
  | x :: xs => by
    simp only [List.map_cons, PyData.depthAll, PyData.depth, depth_ints xs]
    rfl
theorem shaped_ints (xs : List Int) : SeqAt.shaped (.list (xs.map PyData.int)) = true := by
  unfold SeqAt.shaped
  simp only [PyData.canLay0, PyData.depth, canLay_ints, depth_ints]
  rfl

--: math = greedy
--: math = ris
theorem dp_noneK {K : PySem.W.Frag} {H : Hp} {p l : Addr} {b0 b1 b2 b3 b4 b5 : Bool} (h : H p = some (.tup [.non, .ref l])) (g : H l = some (.lst [.bl b0, .bl b1, .bl b2, .bl b3, .bl b4, .bl b5])) :
    Dp K H (.ref p) (.tuple [.none, .list [.bool b0, .bool b1, .bool b2, .bool b3, .bool b4, .bool b5]]) :=
  .tup (SqT.of h) (.cons .non (.cons (.lst (SqL.of g) (.cons (.bl _) (.cons (.bl _) (.cons (.bl _) (.cons (.bl _) (.cons (.bl _) (.cons (.bl _) .nil))))))) .nil))
theorem eqv_noneK (b0 b1 b2 b3 b4 b5 : Bool) : PyData.eqv (.tuple [.none, .list [.bool b0, .bool b1, .bool b2, .bool b3, .bool b4, .bool b5]]) (.tuple [.none, .list [.bool b0, .bool b1, .bool b2, .bool b3, .bool b4, .bool b5]]) = true := by
  simp [PyData.eqv, PyData.eqvAll]
theorem low_drawn {t b : Int} (h1 : 1 ≤ t) (h2 : t < b) : 1 ≤ (low t b).1 ∧ (low t b).1 < (low t b).2 ∧ (low t b).2 ≤ b ∧ (low t b).1 ≤ t := by
  have c0 := low_cross t b
  have l1 := low_bpos (t := t) (by omega : 1 ≤ b)
  have l2 := low_tnn (t := t) (by omega : 1 ≤ b) (by omega)
  refine ⟨?_, ?_, low_ble (by omega), low_tle (by omega)⟩
  · by_cases z : (low t b).1 = 0
    · rw [z, Int.zero_mul] at c0
      have := Int.mul_pos (a := t) (b := (low t b).2) (by omega) (by omega)
      omega
    · omega
  · refine Int.lt_of_mul_lt_mul_right (a := b) ?_ (by omega)
    rw [← c0, Int.mul_comm]
    exact Int.mul_lt_mul_of_pos_left h2 (by omega)

structure ErrA where
  ShareError : Addr
  NoFraction : Addr
  NotBelow : Addr
  TooGreat : Addr
  BadText : Addr
  NotRising : Addr
structure ErrC (K : PySem.W.Frag) (mg : Str → Option Value) (C S : Addr) (x : Str) : Prop where
  g : mg x = some (.ref C)
  x : PySem.W.excIn K C veT "ValueError.__new__" = true
  k : PySem.W.keepIn K (.ref C) = true
  b : PySem.W.subIn K (.ref C) (.type "BaseException") = some true
  t : PySem.W.typeIn K (.ref C) = some (.type "type")
structure KindOf (K : PySem.W.Frag) (e : ErrA) (D : Addr) (b0 b1 b2 b3 b4 b5 : Bool) : Prop where
  exc : ExcC K D
  k0 : PySem.W.kitOne K (.ref D) (.ref e.NoFraction) = some b0
  k1 : PySem.W.kitOne K (.ref D) (.ref e.NotBelow) = some b1
  k2 : PySem.W.kitOne K (.ref D) (.ref e.TooGreat) = some b2
  k3 : PySem.W.kitOne K (.ref D) (.ref e.BadText) = some b3
  k4 : PySem.W.kitOne K (.ref D) (.ref e.NotRising) = some b4
  k5 : PySem.W.kitOne K (.ref D) (.type "ValueError") = some b5
structure ErrOk (K : PySem.W.Frag) (mg : Str → Option Value) (e : ErrA) : Prop where
  ShareError : ErrC K mg e.ShareError e.ShareError "ShareError"
  NoFraction : ErrC K mg e.NoFraction e.ShareError "NoFraction"
  NotBelow : ErrC K mg e.NotBelow e.ShareError "NotBelow"
  TooGreat : ErrC K mg e.TooGreat e.ShareError "TooGreat"
  BadText : ErrC K mg e.BadText e.ShareError "BadText"
  NotRising : ErrC K mg e.NotRising e.ShareError "NotRising"
  dig : PySem.W.nsIn K cStatics "sys.int_max_str_digits" = some none
  sub_NoFraction : PySem.W.exmOne K (.ref e.NoFraction) (.ref e.ShareError) = some true
  kind_NoFraction : KindOf K e e.NoFraction true false false false false true
  sub_NotBelow : PySem.W.exmOne K (.ref e.NotBelow) (.ref e.ShareError) = some true
  kind_NotBelow : KindOf K e e.NotBelow false true false false false true
  sub_TooGreat : PySem.W.exmOne K (.ref e.TooGreat) (.ref e.ShareError) = some true
  kind_TooGreat : KindOf K e e.TooGreat false false true false false true

section
variable {P : Program} {w : World} {K : PySem.W.Frag} {mg : Str → Option Value} {base : Heap} {e : ErrA}

abbrev s_see : Stmt := topS 8
abbrev N_see : List Str := ["fraction"]
theorem sc_see : FnScope N_see ["fraction"] (defScope s_see) := ⟨rfl, rfl, rfl, by decide +kernel, rfl, by decide +kernel, by decide +kernel⟩
def sp_see (K : PySem.W.Frag) (e : ErrA) : Sp := fun vs H Q E => ∃ (a : Addr) (t b : Int), vs = [.ref a] ∧ SqT K H a [.int t, .int b] ∧ ((t < 0 ∨ b < 1) → E (.ref e.NoFraction) none H) ∧ (¬ (t < 0 ∨ b < 1) → Q .non H)
theorem ok_see (D : Stands K mg "see" s_see) (B : Bi mg) (Er : ErrOk K mg e) : Keeps P w K mg base 1 "see" ["fraction"] (sp_see K e) := by
  obtain ⟨f, fd, F, mF⟩ := D
  have h_NoFraction := Er.NoFraction
  refine ⟨f, fd, ?_, F.binds (ps := ["fraction"]) (fun _ _ _ _ _ _ us hl => match us, hl with | [_], _ => rfl), mF, F.kp⟩
  refine F.okX sc_see (fun vs H Q E h => ?_) (fun cdv A outer s H vs Q E hr h => ?_)
  · obtain ⟨a, t, b, rfl, hS, kE, kQ⟩ := h
    rfl
  · obtain ⟨a, t, b, rfl, hS, kE, kQ⟩ := h
    refine ⟨_, (pss_one (ps_if (PW.pt (pw_or (pt_cmpR op_lt (pe_ix ix_tup (pv 0) pe_int (fun _ _ => rfl)) pe_int (nomark _)) (pw_or1 (pt_cmpR op_lt (pe_ix ix_tup (pv 0) pe_int (fun _ _ => rfl)) pe_int (nomark _))))) (pss_one (ps_raise rfl (takes_of rfl rfl rfl rfl) (pmk_own PySem.F.excBase_ValueError h_NoFraction.x h_NoFraction.g h_NoFraction.k (raises_own h_NoFraction.b h_NoFraction.t) rfl))) pss_nil)), ?_⟩
    refine ⟨_, rfl, a, _, 0, _, rfl, rfl, hS, atI_nat (j := 0) rfl, _, _, rfl, rfl, _, rfl, ite2 (fun c => ?_) (fun c => ?_)⟩
    · refine iteT ?_
      exact kE (.inl (of_decide_eq_true c))
    · have c0 : ¬ t < 0 := fun z => c (decide_eq_true z)
      refine ⟨_, rfl, a, _, 1, _, rfl, rfl, hS, atI_nat (j := 1) rfl, _, _, rfl, rfl, _, rfl, ite2 (fun c => ?_) (fun c => ?_)⟩
      · exact kE (.inr (of_decide_eq_true c))
      · exact kQ fun z => z.elim c0 fun z => c (decide_eq_true z)

abbrev s_common : Stmt := topS 9
abbrev N_common : List Str := ["one", "other", "rest"]
theorem sc_common : FnScope N_common ["one", "other"] (defScope s_common) := ⟨rfl, rfl, rfl, by decide +kernel, rfl, by decide +kernel, by decide +kernel⟩
def sp_common (K : PySem.W.Frag) (_ : ErrA) : Sp := fun vs H Q _ => ∃ x y : Int, vs = [.int x, .int y] ∧ 0 ≤ x ∧ 0 ≤ y ∧ Q (.int (gc x y)) H
theorem ok_common (D : Stands K mg "common" s_common) (B : Bi mg) (Er : ErrOk K mg e) : Keeps P w K mg base 1 "common" ["one", "other"] (sp_common K e) := by
  obtain ⟨f, fd, F, mF⟩ := D
  refine ⟨f, fd, ?_, F.binds (ps := ["one", "other"]) (fun _ _ _ _ _ _ us hl => match us, hl with | [_, _], _ => rfl), mF, F.kp⟩
  refine toX (F.ok sc_common (fun vs H Q E h => ?_) (fun cdv A outer s H vs Q E hr h => ?_))
  · obtain ⟨x, y, rfl, hx, hy, q⟩ := h
    rfl
  · obtain ⟨x, y, rfl, hx, hy, q⟩ := h
    refine ⟨_, (pss_cons (ps_while PassesOwn.never (pt_cmpR op_gt (pv 1) pe_int (nomark _)) (pss_cons (ps_set (i := 2) sc_common.nd rfl (Or.inl rfl) (pe_op op_mod (pv 0) (pv 1)))
      (pss_cons (ps_set (i := 0) sc_common.nd rfl (Or.inl rfl) (pv 1))
      (pss_one (ps_set (i := 1) sc_common.nd rfl (Or.inl rfl) (pv 2))))))
      (pss_one (ps_ret (pv 0)))), ?_⟩
    refine while_by (fun σ H' => H' = H ∧ ∃ (u v : Int) (r : Option V), σ = [some (.int u), some (.int v), r] ∧ 0 ≤ u ∧ 0 ≤ v ∧ gc u v = gc x y)
      (fun σ _ => match σ with | [_, some (.int v), _] => v.toNat | _ => 0) ⟨rfl, x, y, none, rfl, hx, hy, rfl⟩ ?_ ?_
    · rintro σ H' ⟨rfl, u, v, r, rfl, hu, hv, hg⟩
      refine ⟨_, rfl, _, _, rfl, rfl, _, rfl, ite2 (fun c => ?_) (fun c => ?_)⟩
      · have c := of_decide_eq_true c
        have m1 := Int.emod_nonneg u (b := v) (by omega)
        have m2 := Int.emod_lt_of_pos u c
        refine ⟨_, rfl, _, rfl, _, _, rfl, rfl, c, _, rfl, _, rfl, ⟨rfl, v, u % v, _, rfl, hv, m1, gc_step.trans hg⟩, ?_⟩
        show (u % v).toNat < v.toNat
        omega
      · have c : ¬ 0 < v := fun z => c (decide_eq_true z)
        have v0 : v = 0 := by omega
        subst v0
        rw [gc_zero hu] at hg
        refine ⟨_, rfl, ?_⟩
        rw [hg]
        exact q
    · rintro σ H' Q1 Q2 hq ⟨v, e1, i, j, e2, e3, k, e4, e5⟩
      exact ⟨v, e1, i, j, e2, e3, k, e4, hq _ _ e5⟩

abbrev s_lowest : Stmt := topS 10
abbrev N_lowest : List Str := ["fraction", "far"]
theorem sc_lowest : FnScope N_lowest ["fraction"] (defScope s_lowest) := ⟨rfl, rfl, rfl, by decide +kernel, rfl, by decide +kernel, by decide +kernel⟩
def sp_lowest (K : PySem.W.Frag) (e : ErrA) : Sp := fun vs H Q E => ∃ (a : Addr) (t b : Int), vs = [.ref a] ∧ SqT K H a [.int t, .int b] ∧ Sz 9000 b ∧ ((t < 0 ∨ b < 1) → E (.ref e.NoFraction) none H) ∧
  (¬ (t < 0 ∨ b < 1) → ∀ H' p, Same H H' → H p = none → H' p = some (.tup [.int (low t b).1, .int (low t b).2]) → Q (.ref p) H')
theorem ok_lowest (D : Stands K mg "lowest" s_lowest) (B : Bi mg) (Er : ErrOk K mg e)
    (h_see : Keeps P w K mg base 1 "see" ["fraction"] (sp_see K e))
    (h_common : Keeps P w K mg base 1 "common" ["one", "other"] (sp_common K e)) : Keeps P w K mg base 2 "lowest" ["fraction"] (sp_lowest K e) := by
  obtain ⟨f, fd, F, mF⟩ := D
  obtain ⟨f_see, fd_see, G_see, b_see, m_see, k_see⟩ := h_see
  obtain ⟨f_common, fd_common, G_common, b_common, m_common, k_common⟩ := h_common
  refine ⟨f, fd, ?_, F.binds (ps := ["fraction"]) (fun _ _ _ _ _ _ us hl => match us, hl with | [_], _ => rfl), mF, F.kp⟩
  refine F.okX sc_lowest (fun vs H Q E h => ?_) (fun cdv A outer s H vs Q E hr h => ?_)
  · obtain ⟨a, t, b, rfl, hS, hz, kE, kQ⟩ := h
    rfl
  · obtain ⟨a, t, b, rfl, hS, hz, kE, kQ⟩ := h
    refine ⟨_, (pss_cons (ps_expr (pe_call G_see (hr.mono (by decide)) (by rfl) m_see k_see b_see .nil (passes_call (E := E) (takes_of rfl rfl rfl rfl) (fun _ _ _ _ h => h)) (pa_cons (pv 0) pa_nil)))
      (pss_cons (ps_set (i := 1) sc_lowest.nd rfl (Or.inl rfl) (pe_call G_common (hr.mono (by decide)) (by rfl) m_common k_common b_common .nil passL (pa_cons (pe_ix ix_tup (pv 0) pe_int (fun _ _ => rfl)) (pa_cons (pe_ix ix_tup (pv 0) pe_int (fun _ _ => rfl)) pa_nil))))
      (pss_one (ps_ret (pe_tup (pa_cons (pe_op op_fdivP (pe_ix ix_tup (pv 0) pe_int (fun _ _ => rfl)) (pv 1)) (pa_cons (pe_op op_fdivP (pe_ix ix_tup (pv 0) pe_int (fun _ _ => rfl)) (pv 1)) pa_nil))))))), ?_⟩
    refine ⟨_, rfl, a, t, b, rfl, hS, fun c => kE c, fun c => ?_⟩
    have hb : 1 ≤ b := by omega
    have ht : 0 ≤ t := by omega
    have hf := gc_pos (t := t) hb
    have hfz : Sz 9000 (gc t b) := hz.le (by omega) (gc_le hb)
    refine ⟨_, rfl, a, _, 0, _, rfl, rfl, hS, atI_nat (j := 0) rfl, _, rfl, a, _, 1, _, rfl, rfl, hS, atI_nat (j := 1) rfl, t, b, rfl, ht, by omega, ?_⟩
    refine ⟨_, rfl, a, _, 0, _, rfl, rfl, hS, atI_nat (j := 0) rfl, _, rfl, _, _, rfl, rfl, hfz.cd hf, ?_⟩
    refine ⟨_, rfl, a, _, 1, _, rfl, rfl, hS, atI_nat (j := 1) rfl, _, rfl, _, _, rfl, rfl, hfz.cd hf, by show 2 ≤ sizeLine; decide, fun p hp => ?_⟩
    exact kQ c _ p (same_new hp) hp upd_same

abbrev s_less : Stmt := topS 11
abbrev N_less : List Str := ["one", "other"]
theorem sc_less : FnScope N_less ["one", "other"] (defScope s_less) := ⟨rfl, rfl, rfl, by decide +kernel, rfl, by decide +kernel, by decide +kernel⟩
def sp_less (K : PySem.W.Frag) (e : ErrA) : Sp := fun vs H Q E => ∃ (a c : Addr) (t b u d : Int), vs = [.ref a, .ref c] ∧ SqT K H a [.int t, .int b] ∧ SqT K H c [.int u, .int d] ∧ Sz 4400 t ∧ Sz 4400 b ∧ Sz 4400 u ∧ Sz 4400 d ∧
  ((t < 0 ∨ b < 1 ∨ u < 0 ∨ d < 1) → E (.ref e.NoFraction) none H) ∧ (0 ≤ t → 1 ≤ b → 0 ≤ u → 1 ≤ d → Q (.bl (decide (t * d < u * b))) H)
theorem ok_less (D : Stands K mg "less" s_less) (B : Bi mg) (Er : ErrOk K mg e)
    (h_see : Keeps P w K mg base 1 "see" ["fraction"] (sp_see K e)) : Keeps P w K mg base 2 "less" ["one", "other"] (sp_less K e) := by
  obtain ⟨f, fd, F, mF⟩ := D
  obtain ⟨f_see, fd_see, G_see, b_see, m_see, k_see⟩ := h_see
  refine ⟨f, fd, ?_, F.binds (ps := ["one", "other"]) (fun _ _ _ _ _ _ us hl => match us, hl with | [_, _], _ => rfl), mF, F.kp⟩
  refine F.okX sc_less (fun vs H Q E h => ?_) (fun cdv A outer s H vs Q E hr h => ?_)
  · obtain ⟨a, c, t, b, u, d, rfl, hA, hC, z1, z2, z3, z4, kE, kQ⟩ := h
    rfl
  · obtain ⟨a, c, t, b, u, d, rfl, hA, hC, z1, z2, z3, z4, kE, kQ⟩ := h
    refine ⟨_, (pss_cons (ps_expr (pe_call G_see (hr.mono (by decide)) (by rfl) m_see k_see b_see .nil (passes_call (E := E) (takes_of rfl rfl rfl rfl) (fun _ _ _ _ h => h)) (pa_cons (pv 0) pa_nil)))
      (pss_cons (ps_expr (pe_call G_see (hr.mono (by decide)) (by rfl) m_see k_see b_see .nil (passes_call (E := E) (takes_of rfl rfl rfl rfl) (fun _ _ _ _ h => h)) (pa_cons (pv 1) pa_nil)))
      (pss_one (ps_ret (pe_cmpR op_lt (pe_op op_mulW (pe_ix ix_tup (pv 0) pe_int (fun _ _ => rfl)) (pe_ix ix_tup (pv 1) pe_int (fun _ _ => rfl))) (pe_op op_mulW (pe_ix ix_tup (pv 1) pe_int (fun _ _ => rfl)) (pe_ix ix_tup (pv 0) pe_int (fun _ _ => rfl))) (nomark _)))))), ?_⟩
    refine ⟨_, rfl, a, t, b, rfl, hA, fun c => kE (by omega), fun c1 => ?_⟩
    refine ⟨_, rfl, c, u, d, rfl, hC, fun c => kE (by omega), fun c2 => ?_⟩
    refine ⟨_, rfl, a, _, 0, _, rfl, rfl, hA, atI_nat (j := 0) rfl, _, rfl, c, _, 1, _, rfl, rfl, hC, atI_nat (j := 1) rfl, _, _, rfl, rfl, z1.cm z4, ?_⟩
    refine ⟨_, rfl, c, _, 0, _, rfl, rfl, hC, atI_nat (j := 0) rfl, _, rfl, a, _, 1, _, rfl, rfl, hA, atI_nat (j := 1) rfl, _, _, rfl, rfl, z3.cm z2, _, _, rfl, rfl, ?_⟩
    exact kQ (by omega) (by omega) (by omega) (by omega)

abbrev s_taken : Stmt := topS 12
abbrev N_taken : List Str := ["one", "other"]
theorem sc_taken : FnScope N_taken ["one", "other"] (defScope s_taken) := ⟨rfl, rfl, rfl, by decide +kernel, rfl, by decide +kernel, by decide +kernel⟩
def sp_taken (K : PySem.W.Frag) (e : ErrA) : Sp := fun vs H Q E => ∃ (a c : Addr) (t b u d : Int), vs = [.ref a, .ref c] ∧ SqT K H a [.int t, .int b] ∧ SqT K H c [.int u, .int d] ∧ Sz 4400 t ∧ Sz 4400 b ∧ Sz 4400 u ∧ Sz 4400 d ∧
  ((t < 0 ∨ b < 1 ∨ u < 0 ∨ d < 1) → E (.ref e.NoFraction) none H) ∧ (0 ≤ t → 1 ≤ b → 0 ≤ u → 1 ≤ d → t * d < u * b → E (.ref e.NotBelow) none H) ∧
  (0 ≤ t → 1 ≤ b → 0 ≤ u → 1 ≤ d → u * b ≤ t * d → ∀ H' p, Same H H' → H p = none → H' p = some (.tup [.int (low (t * d - u * b) (b * d)).1, .int (low (t * d - u * b) (b * d)).2]) → Q (.ref p) H')
theorem ok_taken (D : Stands K mg "taken" s_taken) (B : Bi mg) (Er : ErrOk K mg e)
    (h_less : Keeps P w K mg base 2 "less" ["one", "other"] (sp_less K e))
    (h_lowest : Keeps P w K mg base 2 "lowest" ["fraction"] (sp_lowest K e)) : Keeps P w K mg base 3 "taken" ["one", "other"] (sp_taken K e) := by
  obtain ⟨f, fd, F, mF⟩ := D
  obtain ⟨f_less, fd_less, G_less, b_less, m_less, k_less⟩ := h_less
  obtain ⟨f_lowest, fd_lowest, G_lowest, b_lowest, m_lowest, k_lowest⟩ := h_lowest
  have h_NotBelow := Er.NotBelow
  refine ⟨f, fd, ?_, F.binds (ps := ["one", "other"]) (fun _ _ _ _ _ _ us hl => match us, hl with | [_, _], _ => rfl), mF, F.kp⟩
  refine F.okX sc_taken (fun vs H Q E h => ?_) (fun cdv A outer s H vs Q E hr h => ?_)
  · obtain ⟨a, c, t, b, u, d, rfl, hA, hC, z1, z2, z3, z4, kE, kB, kQ⟩ := h
    rfl
  · obtain ⟨a, c, t, b, u, d, rfl, hA, hC, z1, z2, z3, z4, kE, kB, kQ⟩ := h
    refine ⟨_, (pss_cons (ps_if (pt_val (pe_call G_less (hr.mono (by decide)) (by rfl) m_less k_less b_less .nil (passes_call (E := E) (takes_of rfl rfl rfl rfl) (fun _ _ _ _ h => h)) (pa_cons (pv 0) (pa_cons (pv 1) pa_nil)))) (pss_one (ps_raise rfl (takes_of rfl rfl rfl rfl) (pmk_own PySem.F.excBase_ValueError h_NotBelow.x h_NotBelow.g h_NotBelow.k (raises_own h_NotBelow.b h_NotBelow.t) rfl))) pss_nil)
      (pss_one (ps_ret (pe_call G_lowest (hr.mono (by decide)) (by rfl) m_lowest k_lowest b_lowest .nil (passes_call (E := E) (takes_of rfl rfl rfl rfl) (fun _ _ _ _ h => h)) (pa_cons (pe_tup (pa_cons (pe_op op_sub (pe_op op_mulW (pe_ix ix_tup (pv 0) pe_int (fun _ _ => rfl)) (pe_ix ix_tup (pv 1) pe_int (fun _ _ => rfl))) (pe_op op_mulW (pe_ix ix_tup (pv 1) pe_int (fun _ _ => rfl)) (pe_ix ix_tup (pv 0) pe_int (fun _ _ => rfl)))) (pa_cons (pe_op op_mulW (pe_ix ix_tup (pv 0) pe_int (fun _ _ => rfl)) (pe_ix ix_tup (pv 1) pe_int (fun _ _ => rfl))) pa_nil))) pa_nil))))), ?_⟩
    refine ⟨_, rfl, _, rfl, a, c, t, b, u, d, rfl, hA, hC, z1, z2, z3, z4, kE, fun h1 h2 h3 h4 => ⟨_, rfl, ite2 (fun c => ?_) (fun c => ?_)⟩⟩
    · exact kB h1 h2 h3 h4 (of_decide_eq_true c)
    · have c0 : u * b ≤ t * d := by
        have : ¬ t * d < u * b := fun z => c (decide_eq_true z)
        omega
      have bd : 1 ≤ b * d := Int.mul_pos (by omega) (by omega)
      refine ⟨_, rfl, a, _, 0, _, rfl, rfl, hA, atI_nat (j := 0) rfl, _, rfl, _, _, 1, _, rfl, rfl, hC, atI_nat (j := 1) rfl, _, _, rfl, rfl, z1.cm z4, ?_⟩
      refine ⟨_, rfl, _, _, 0, _, rfl, rfl, hC, atI_nat (j := 0) rfl, _, rfl, a, _, 1, _, rfl, rfl, hA, atI_nat (j := 1) rfl, _, _, rfl, rfl, z3.cm z2, _, _, rfl, rfl, ?_⟩
      refine ⟨_, rfl, a, _, 1, _, rfl, rfl, hA, atI_nat (j := 1) rfl, _, rfl, _, _, 1, _, rfl, rfl, hC, atI_nat (j := 1) rfl, _, _, rfl, rfl, z2.cm z4, by show 2 ≤ sizeLine; decide, fun p hp => ?_⟩
      refine ⟨p, _, _, rfl, SqT.of upd_same, (z2.mul z4).mono, fun c => absurd c (by omega), fun _ H' r s hr e => ?_⟩
      exact kQ h1 h2 h3 h4 c0 H' r ((same_new hp).trans s) ((same_new hp).free hr) e

abbrev s_see_below : Stmt := topS 13
abbrev N_see_below : List Str := ["fraction"]
theorem sc_see_below : FnScope N_see_below ["fraction"] (defScope s_see_below) := ⟨rfl, rfl, rfl, by decide +kernel, rfl, by decide +kernel, by decide +kernel⟩
def sp_see_below (K : PySem.W.Frag) (e : ErrA) : Sp := fun vs H Q E => ∃ (a : Addr) (t b : Int), vs = [.ref a] ∧ SqT K H a [.int t, .int b] ∧ ((t < 0 ∨ b < 1) → E (.ref e.NoFraction) none H) ∧
  (0 ≤ t → 1 ≤ b → (t < 1 ∨ b ≤ t) → E (.ref e.NotBelow) none H) ∧ (1 ≤ t → t < b → Q .non H)
theorem ok_see_below (D : Stands K mg "see_below" s_see_below) (B : Bi mg) (Er : ErrOk K mg e)
    (h_see : Keeps P w K mg base 1 "see" ["fraction"] (sp_see K e)) : Keeps P w K mg base 2 "see_below" ["fraction"] (sp_see_below K e) := by
  obtain ⟨f, fd, F, mF⟩ := D
  obtain ⟨f_see, fd_see, G_see, b_see, m_see, k_see⟩ := h_see
  have h_NotBelow := Er.NotBelow
  refine ⟨f, fd, ?_, F.binds (ps := ["fraction"]) (fun _ _ _ _ _ _ us hl => match us, hl with | [_], _ => rfl), mF, F.kp⟩
  refine F.okX sc_see_below (fun vs H Q E h => ?_) (fun cdv A outer s H vs Q E hr h => ?_)
  · obtain ⟨a, t, b, rfl, hS, kE, kB, kQ⟩ := h
    rfl
  · obtain ⟨a, t, b, rfl, hS, kE, kB, kQ⟩ := h
    refine ⟨_, (pss_cons (ps_expr (pe_call G_see (hr.mono (by decide)) (by rfl) m_see k_see b_see .nil (passes_call (E := E) (takes_of rfl rfl rfl rfl) (fun _ _ _ _ h => h)) (pa_cons (pv 0) pa_nil)))
      (pss_one (ps_if (PW.pt (pw_or (pt_cmpR op_lt (pe_ix ix_tup (pv 0) pe_int (fun _ _ => rfl)) pe_int (nomark _)) (pw_or1 (pt_cmpR op_ge (pe_ix ix_tup (pv 0) pe_int (fun _ _ => rfl)) (pe_ix ix_tup (pv 0) pe_int (fun _ _ => rfl)) (nomark _))))) (pss_one (ps_raise rfl (takes_of rfl rfl rfl rfl) (pmk_own PySem.F.excBase_ValueError h_NotBelow.x h_NotBelow.g h_NotBelow.k (raises_own h_NotBelow.b h_NotBelow.t) rfl))) pss_nil))), ?_⟩
    refine ⟨_, rfl, a, t, b, rfl, hS, kE, fun g => ?_⟩
    have h0 : 0 ≤ t := by omega
    have hb : 1 ≤ b := by omega
    refine ⟨_, rfl, a, _, 0, _, rfl, rfl, hS, atI_nat (j := 0) rfl, _, _, rfl, rfl, _, rfl, ite2 (fun c => ?_) (fun c => ?_)⟩
    · refine iteT ?_
      exact kB h0 hb (.inl (of_decide_eq_true c))
    · have c0 : ¬ t < 1 := fun z => c (decide_eq_true z)
      refine ⟨_, rfl, a, _, 0, _, rfl, rfl, hS, atI_nat (j := 0) rfl, _, rfl, a, _, 1, _, rfl, rfl, hS, atI_nat (j := 1) rfl, _, _, rfl, rfl, _, rfl, ite2 (fun c => ?_) (fun c => ?_)⟩
      · exact kB h0 hb (.inr (of_decide_eq_true c))
      · have c1 : ¬ b ≤ t := fun z => c (decide_eq_true z)
        exact kQ (by omega) (by omega)

abbrev s_see_share : Stmt := topS 16
abbrev N_see_share : List Str := ["share"]
theorem sc_see_share : FnScope N_see_share ["share"] (defScope s_see_share) := ⟨rfl, rfl, rfl, by decide +kernel, rfl, by decide +kernel, by decide +kernel⟩
def sp_see_share (K : PySem.W.Frag) (e : ErrA) : Sp := fun vs H Q E => ∃ i : Int, vs = [.int i] ∧ 0 ≤ i ∧ Sz 2700 i ∧ (Big i → E (.ref e.TooGreat) none H) ∧ (¬ Big i → Q .non H)
theorem ok_see_share (D : Stands K mg "see_share" s_see_share) (B : Bi mg) (Er : ErrOk K mg e)
    (h_MOST : ∃ t, mg "MOST" = some (.int 400 t)) : Keeps P w K mg base 1 "see_share" ["share"] (sp_see_share K e) := by
  obtain ⟨f, fd, F, mF⟩ := D
  obtain ⟨t_MOST, h_MOST⟩ := h_MOST
  have h_TooGreat := Er.TooGreat
  refine ⟨f, fd, ?_, F.binds (ps := ["share"]) (fun _ _ _ _ _ _ us hl => match us, hl with | [_], _ => rfl), mF, F.kp⟩
  refine F.okX sc_see_share (fun vs H Q E h => ?_) (fun cdv A outer s H vs Q E hr h => ?_)
  · obtain ⟨i, rfl, h0, hz, kE, kQ⟩ := h
    rfl
  · obtain ⟨i, rfl, h0, hz, kE, kQ⟩ := h
    refine ⟨_, (pss_one (ps_if (pt_cmpR op_gt (pe_callB call_len_str (by rfl) B.len (by decide +kernel) (pa_cons (pe_callTy (call_str_big rfl Er.dig) (by rfl) B.str (by decide +kernel) (pa_cons (pv 0) pa_nil)) pa_nil)) (pe_glob (v := .int 400) (by rfl) h_MOST ⟨_, rfl⟩) (nomark _)) (pss_one (ps_raise rfl (takes_of rfl rfl rfl rfl) (pmk_own PySem.F.excBase_ValueError h_TooGreat.x h_TooGreat.g h_TooGreat.k (raises_own h_TooGreat.b h_TooGreat.t) rfl))) pss_nil)), ?_⟩
    refine ⟨_, rfl, _, rfl, Nat.lt_trans hz big4300, _, rfl, slen_fits h0 hz, _, _, rfl, rfl, _, rfl, ?_⟩
    rw [big_dec]
    refine ite2 (fun c => ?_) (fun c => ?_)
    · exact kE (of_decide_eq_true c)
    · exact kQ fun z => c (decide_eq_true z)

abbrev s_up : Stmt := topS 17
abbrev N_up : List Str := ["top", "bottom"]
theorem sc_up : FnScope N_up ["top", "bottom"] (defScope s_up) := ⟨rfl, rfl, rfl, by decide +kernel, rfl, by decide +kernel, by decide +kernel⟩
def sp_up (K : PySem.W.Frag) (_ : ErrA) : Sp := fun vs H Q _ => ∃ t b : Int, vs = [.int t, .int b] ∧ 1 ≤ b ∧ Sz 9000 b ∧ Q (.int (upF t b)) H
theorem ok_up (D : Stands K mg "up" s_up) (B : Bi mg) (Er : ErrOk K mg e) : Keeps P w K mg base 1 "up" ["top", "bottom"] (sp_up K e) := by
  obtain ⟨f, fd, F, mF⟩ := D
  refine ⟨f, fd, ?_, F.binds (ps := ["top", "bottom"]) (fun _ _ _ _ _ _ us hl => match us, hl with | [_, _], _ => rfl), mF, F.kp⟩
  refine toX (F.ok sc_up (fun vs H Q E h => ?_) (fun cdv A outer s H vs Q E hr h => ?_))
  · obtain ⟨t, b, rfl, hb, hz, q⟩ := h
    rfl
  · obtain ⟨t, b, rfl, hb, hz, q⟩ := h
    refine ⟨_, (pss_one (ps_ret (pe_op op_fdivP (pe_op op_sub (pe_op op_add (pv 0) (pv 1)) pe_int) (pv 1)))), ?_⟩
    exact ⟨_, rfl, _, rfl, _, _, rfl, rfl, _, _, rfl, rfl, _, rfl, _, _, rfl, rfl, hz.cd (by omega), q⟩

abbrev s_greatest_first : Stmt := topS 18
abbrev N_greatest_first : List Str := ["fraction", "left", "found", "share"]
theorem sc_greatest_first : FnScope N_greatest_first ["fraction"] (defScope s_greatest_first) := ⟨rfl, rfl, rfl, by decide +kernel, rfl, by decide +kernel, by decide +kernel⟩
theorem left_monoG {i j : Int} {K : PySem.W.Frag} {n : Nat} (σ : L2.St) (H : Hp) (Q Q' : Bool → Hp → Prop) (hq : ∀ b H1, Q b H1 → Q' b H1) (h : tTest (tOp (rI0 fun i j => .bl (decide (j < i))) (tOp (rIxT K) (tVar n) (tC (.int i))) (tC (.int j))) σ H Q) :
    tTest (tOp (rI0 fun i j => .bl (decide (j < i))) (tOp (rIxT K) (tVar n) (tC (.int i))) (tC (.int j))) σ H Q' := by
  obtain ⟨v, e1, p, xs, i, x, h1, h2, h3, h4, i', j', h5, h6, k, h7, h8⟩ := h
  exact ⟨v, e1, p, xs, i, x, h1, h2, h3, h4, i', j', h5, h6, k, h7, hq _ _ h8⟩
def sp_greatest_first (K : PySem.W.Frag) (e : ErrA) : Sp := fun vs H Q E => ∃ (a : Addr) (t b : Int), vs = [.ref a] ∧ SqT K H a [.int t, .int b] ∧ b ≤ 1000 ∧ ((t < 0 ∨ b < 1) → E (.ref e.NoFraction) none H) ∧
  (0 ≤ t → 1 ≤ b → (t < 1 ∨ b ≤ t) → E (.ref e.NotBelow) none H) ∧ (1 ≤ t → t < b → gws (low t b).1 (low t b).2 = none → ∀ H', Same H H' → E (.ref e.TooGreat) none H') ∧
  (1 ≤ t → t < b → ∀ xs, gws (low t b).1 (low t b).2 = some xs → ∀ H' p, Same H H' → H p = none → H' p = some (.lst (xs.map V.int)) → Q (.ref p) H')
theorem ok_greatest_first (D : Stands K mg "greatest_first" s_greatest_first) (B : Bi mg) (Er : ErrOk K mg e)
    (h_see_below : Keeps P w K mg base 2 "see_below" ["fraction"] (sp_see_below K e))
    (h_lowest : Keeps P w K mg base 2 "lowest" ["fraction"] (sp_lowest K e))
    (h_up : Keeps P w K mg base 1 "up" ["top", "bottom"] (sp_up K e))
    (h_see_share : Keeps P w K mg base 1 "see_share" ["share"] (sp_see_share K e))
    (h_taken : Keeps P w K mg base 3 "taken" ["one", "other"] (sp_taken K e)) : Keeps P w K mg base 4 "greatest_first" ["fraction"] (sp_greatest_first K e) := by
  obtain ⟨f, fd, F, mF⟩ := D
  obtain ⟨f_see_below, fd_see_below, G_see_below, b_see_below, m_see_below, k_see_below⟩ := h_see_below
  obtain ⟨f_lowest, fd_lowest, G_lowest, b_lowest, m_lowest, k_lowest⟩ := h_lowest
  obtain ⟨f_up, fd_up, G_up, b_up, m_up, k_up⟩ := h_up
  obtain ⟨f_see_share, fd_see_share, G_see_share, b_see_share, m_see_share, k_see_share⟩ := h_see_share
  obtain ⟨f_taken, fd_taken, G_taken, b_taken, m_taken, k_taken⟩ := h_taken
  refine ⟨f, fd, ?_, F.binds (ps := ["fraction"]) (fun _ _ _ _ _ _ us hl => match us, hl with | [_], _ => rfl), mF, F.kp⟩
  refine F.okX sc_greatest_first (fun vs H Q E h => ?_) (fun cdv A outer s H vs Q E hr h => ?_)
  · obtain ⟨a, t, b, rfl, hS, hb0, kE, kB, kT, kQ⟩ := h
    rfl
  · obtain ⟨a, t, b, rfl, hS, hb0, kE, kB, kT, kQ⟩ := h
    refine ⟨_, (pss_cons (ps_expr (pe_call G_see_below (hr.mono (by decide)) (by rfl) m_see_below k_see_below b_see_below .nil (passes_call (E := E) (takes_of rfl rfl rfl rfl) (fun _ _ _ _ h => h)) (pa_cons (pv 0) pa_nil)))
      (pss_cons (ps_set (i := 1) sc_greatest_first.nd rfl (Or.inl rfl) (pe_call G_lowest (hr.mono (by decide)) (by rfl) m_lowest k_lowest b_lowest .nil (passes_call (E := E) (takes_of rfl rfl rfl rfl) (fun _ _ _ _ h => h)) (pa_cons (pv 0) pa_nil)))
      (pss_cons (ps_set (i := 2) sc_greatest_first.nd rfl (Or.inl rfl) (pe_lst pa_nil))
      (pss_cons (ps_while (passes_of rfl) (pt_cmpR op_gt (pe_ix ix_tup (pv 1) pe_int (fun _ _ => rfl)) pe_int (nomark _)) (pss_cons (ps_set (i := 3) sc_greatest_first.nd rfl (Or.inl rfl) (pe_call G_up (hr.mono (by decide)) (by rfl) m_up k_up b_up .nil passL (pa_cons (pe_ix ix_tup (pv 1) pe_int (fun _ _ => rfl)) (pa_cons (pe_ix ix_tup (pv 1) pe_int (fun _ _ => rfl)) pa_nil))))
      (pss_cons (ps_expr (pe_call G_see_share (hr.mono (by decide)) (by rfl) m_see_share k_see_share b_see_share .nil (passes_call (E := E) (takes_of rfl rfl rfl rfl) (fun _ _ _ _ h => h)) (pa_cons (pv 3) pa_nil)))
      (pss_cons (ps_expr (pe_bm PySem.F.plainAttrs_list PySem.F.slot_list_append PySem.F.type_list_append mt_append (pv 2) (pa_cons (pv 3) pa_nil)))
      (pss_one (ps_set (i := 1) sc_greatest_first.nd rfl (Or.inl rfl) (pe_call G_taken (hr.mono (by decide)) (by rfl) m_taken k_taken b_taken .nil (passes_call (E := E) (takes_of rfl rfl rfl rfl) (fun _ _ _ _ h => h)) (pa_cons (pv 1) (pa_cons (pe_tup (pa_cons pe_int (pa_cons (pv 3) pa_nil))) pa_nil)))))))))
      (pss_one (ps_ret (pv 2))))))), ?_⟩
    refine ⟨_, rfl, a, t, b, rfl, hS, kE, kB, fun g1 g2 => ?_⟩
    have hz : Sz 10 b := by
      show b.natAbs < 1024
      omega
    refine ⟨_, rfl, a, t, b, rfl, hS, hz.mono, fun z => absurd z (by omega), fun _ H1 p s1 np ep => ?_⟩
    refine ⟨Nat.zero_le _, fun L hL => ?_⟩
    have b1 : 1 ≤ b := by omega
    have c0 := low_cross t b
    have l1 := low_bpos (t := t) b1
    have l2 := low_tnn (t := t) b1 (by omega)
    have l3 := low_ble (t := t) b1
    have l5 := low_tle (b := b) (by omega : 0 ≤ t)
    have l4 : (low t b).1 < (low t b).2 := by
      refine Int.lt_of_mul_lt_mul_right (a := b) ?_ (by omega)
      rw [← c0, Int.mul_comm]
      exact Int.mul_lt_mul_of_pos_left g2 (by omega)
    have kT := kT g1 g2
    have kQ := kQ g1 g2
    have zB : Sz 2670 (low t b).2 := ((by show (low t b).2.natAbs < 1024; omega : Sz 10 (low t b).2)).mono
    generalize (low t b).1 = T at *
    generalize (low t b).2 = B at *
    have sL := same_mut (o := .lst []) s1 (s1.free hL)
    refine while_by (fun σ H' => Same H H' ∧ ∃ (q : Addr) (u v : Int) (acc : List Int) (x : Option V), σ = [some (.ref a), some (.ref q), some (.ref L), x] ∧ H' q = some (.tup [.int u, .int v]) ∧ H' L = some (.lst (acc.map V.int)) ∧
        0 ≤ u ∧ u < v ∧ u ≤ 1000 ∧ Sz 2670 v ∧ gws T B = (gws u v).map (acc ++ ·) ∧ (acc.length : Int) + u ≤ 1000)
      (fun σ H' => match σ with | [_, some (.ref q), _, _] => (match H' q with | some (.tup [.int u, _]) => u.toNat | _ => 0) | _ => 0) ?_ ?_ left_monoG
    · exact ⟨sL, p, _, _, [], none, rfl, same_new hL _ _ ep, upd_same, l2, l4, by omega, zB, by simp, by show (0 : Int) + _ ≤ 1000; omega⟩
    · rintro σ H2 ⟨s2, q, u, v, acc, x, rfl, eq, eL, u0, uv, ub, zv, er, al⟩
      refine ⟨_, rfl, q, _, 0, _, rfl, rfl, SqT.of eq, atI_nat (j := 0) rfl, _, _, rfl, rfl, _, rfl, ite2 (fun c => ?_) (fun c => ?_)⟩
      · have c : 0 < u := of_decide_eq_true c
        have zu : Sz 10 u := by
          show u.natAbs < 1024
          omega
        have v1 : 1 ≤ v := by omega
        have n1 := upF_pos (B := v) (T := u) (by omega) v1
        have n2 := upF_le (B := v) (T := u) (by omega) v1
        have hi := upF_hi (B := v) (T := u) (by omega)
        refine ⟨_, rfl, q, _, 1, _, rfl, rfl, SqT.of eq, atI_nat (j := 1) rfl, _, rfl, q, _, 0, _, rfl, rfl, SqT.of eq, atI_nat (j := 0) rfl, v, u, rfl, by omega, zu.mono, ?_⟩
        refine ⟨_, rfl, _, rfl, by omega, (zv.mono : Sz 2700 v).le (by omega) n2, fun bg => ?_, fun bg => ?_⟩
        · rw [show gws u v = none from gws_big (by omega) bg] at er
          exact kT er H2 s2
        obtain ⟨y1, y2, y3, y4⟩ := lft_sz (T := u) (B := v) (by omega) v1 ub bg
        refine ⟨_, rfl, .inl ⟨rfl, _, SqL.of eL⟩, _, rfl, L, _, _, rfl, rfl, eL, by
          rw [List.length_map]
          exact szl_lt (by omega), ?_⟩
        have qL : q ≠ L := ne_of eq eL (fun z => by cases z)
        have eq' : (upd H2 L (.lst (acc.map V.int ++ [.int (upF v u)]))) q = some (.tup [.int u, .int v]) := by
          rw [upd_ne qL]
          exact eq
        have eL' : (upd H2 L (.lst (acc.map V.int ++ [.int (upF v u)]))) L = some (.lst ((acc ++ [upF v u]).map V.int)) := by
          rw [upd_same, List.map_append] <;> rfl
        have s3 := same_mut (o := .lst (acc.map V.int ++ [.int (upF v u)])) s2 (s1.free hL)
        generalize (upd H2 L (.lst (acc.map V.int ++ [.int (upF v u)]))) = H3 at eq' eL' s3
        refine ⟨_, rfl, _, rfl, by show 2 ≤ sizeLine; decide, fun o no => ?_⟩
        have s5 := same_new (o := .tup [.int 1, .int (upF v u)]) no
        refine ⟨q, o, u, v, 1, upF v u, rfl, SqT.of (s5 _ _ eq'), SqT.of upd_same, zu.mono, y1.mono, Sz.one, y2.mono, fun z => absurd z (by omega), fun _ _ _ _ z => absurd z (by rw [Int.mul_comm, Int.one_mul]; omega), fun _ _ _ _ z H6 r s6 nr er6 => ?_⟩
        have s46 := s5.trans s6
        have e1 : u * upF v u - 1 * v = nxt u v := by
          unfold nxt
          omega
        rw [e1] at er6
        have er6 : H6 r = some (.tup [.int (lft u v).1, .int (lft u v).2]) := er6
        have k1 := lft_nn (T := u) (B := v) (by omega) v1
        have k5 := lft_below (T := u) (B := v) (by omega) v1 uv
        have k4 := lft_lt (T := u) (B := v) (by omega)
        refine ⟨⟨s3.trans s46, r, _, _, acc ++ [upF v u], _, rfl, er6, s46 _ _ eL', k1, k5, y4, y3, ?_, ?_⟩, ?_⟩
        · rw [er, show gws u v = _ from gws_cons (by omega) bg, Option.map_map]
          congr 1
          funext l
          simp
        · rw [List.length_append, List.length_singleton]
          omega
        · show (match H6 r with | some (.tup [.int u, _]) => u.toNat | _ => 0) < (match H2 q with | some (.tup [.int u, _]) => u.toNat | _ => 0)
          rw [er6, eq]
          show (lft u v).1.toNat < u.toNat
          omega
      · have c : ¬ 0 < u := fun z => c (decide_eq_true z)
        rw [show gws u v = some [] from gws_nil (by omega)] at er
        have er : gws T B = some (acc ++ []) := er
        rw [List.append_nil] at er
        exact ⟨_, rfl, kQ _ er H2 L s2 (s1.free hL) eL⟩

abbrev s_law_cell_at : Stmt := topS 20
abbrev N_law_cell_at : List Str := ["script", "k"]
theorem sc_law_cell_at : FnScope N_law_cell_at ["script", "k"] (defScope s_law_cell_at) := ⟨rfl, rfl, rfl, by decide +kernel, rfl, by decide +kernel, by decide +kernel⟩
/-- script[k], nought beyond the end -/
def cell (ns : List Int) (k : Nat) : Int := ns.getD k 0
theorem cell_arg {a : Addr} {x : Int} {k : Nat} (h : x = k) : [V.ref a, V.int x] = [V.ref a, V.int (k : Int)] := by rw [h]
def sp_law_cell_at (K : PySem.W.Frag) (_ : ErrA) : Sp := fun vs H Q _ => ∃ (a : Addr) (ns : List Int) (k : Nat), vs = [.ref a, .int k] ∧ SqL K H a (ns.map V.int) ∧ ns.length ≤ 63 ∧ Q (.int (cell ns k)) H
theorem ok_law_cell_at (D : Stands K mg "_law_cell_at" s_law_cell_at) (B : Bi mg) (Er : ErrOk K mg e) : Keeps P w K mg base 1 "_law_cell_at" ["script", "k"] (sp_law_cell_at K e) := by
  obtain ⟨f, fd, F, mF⟩ := D
  refine ⟨f, fd, ?_, F.binds (ps := ["script", "k"]) (fun _ _ _ _ _ _ us hl => match us, hl with | [_, _], _ => rfl), mF, F.kp⟩
  refine toX (F.ok sc_law_cell_at (fun vs H Q E h => ?_) (fun cdv A outer s H vs Q E hr h => ?_))
  · obtain ⟨a, ns, k, rfl, hS, hk, q⟩ := h
    rfl
  · obtain ⟨a, ns, k, rfl, hS, hk, q⟩ := h
    refine ⟨_, (pss_cons (ps_if (pt_cmpR op_lt (pv 1) (pe_callB call_len_seq (by rfl) B.len (by decide +kernel) (pa_cons (pv 0) pa_nil)) (nomark _)) (pss_one (ps_ret (pe_ix ix_list (pv 0) (pv 1) (fun _ _ => rfl)))) pss_nil)
      (pss_one (ps_ret pe_int))), ?_⟩
    refine ⟨_, rfl, _, rfl, a, _, rfl, .inl hS, _, _, rfl, rfl, _, rfl, ite2 (fun c => ?_) (fun c => ?_)⟩
    · have c := of_decide_eq_true c
      rw [List.length_map] at c
      have hl : k < ns.length := by omega
      have g : ns[k]? = some (cell ns k) := by
        unfold cell
        rw [List.getD_eq_getElem?_getD, List.getElem?_eq_getElem hl] <;> rfl
      exact ⟨_, rfl, _, rfl, a, _, _, _, rfl, rfl, hS, atI_nat (get_map g), q⟩
    · have z : cell ns k = 0 := by
        unfold cell
        rw [List.getD_eq_getElem?_getD, List.getElem?_eq_none] <;> first | rfl | skip
        have c : ¬ ((k : Int) < ((ns.map V.int).length : Int)) := fun z => c (decide_eq_true z)
        rw [List.length_map] at c
        omega
      rw [z] at q
      exact q

abbrev s_law_whole : Stmt := topS 21
abbrev N_law_whole : List Str := ["found"]
theorem sc_law_whole : FnScope N_law_whole ["found"] (defScope s_law_whole) := ⟨rfl, rfl, rfl, by decide +kernel, rfl, by decide +kernel, by decide +kernel⟩
def sp_law_whole (K : PySem.W.Frag) (_ : ErrA) : Sp := fun vs H Q _ => ∃ i : Int, vs = [.int i] ∧ Q (.bl true) H
theorem ok_law_whole (D : Stands K mg "_law_whole" s_law_whole) (B : Bi mg) (Er : ErrOk K mg e) : Keeps P w K mg base 1 "_law_whole" ["found"] (sp_law_whole K e) := by
  obtain ⟨f, fd, F, mF⟩ := D
  refine ⟨f, fd, ?_, F.binds (ps := ["found"]) (fun _ _ _ _ _ _ us hl => match us, hl with | [_], _ => rfl), mF, F.kp⟩
  refine toX (F.ok sc_law_whole (fun vs H Q E h => ?_) (fun cdv A outer s H vs Q E hr h => ?_))
  · obtain ⟨i, rfl, q⟩ := h
    rfl
  · obtain ⟨i, rfl, q⟩ := h
    refine ⟨_, (pss_one (ps_ret (pe_and (pe_callB call_isi (by rfl) B.isinstance (by decide +kernel) (pa_cons (pv 0) (pa_cons (pe_bltn (v := .ty "int") (by rfl) B.int (by decide +kernel) rfl) pa_nil))) (pe_one (pe_not (pe_callB call_isi (by rfl) B.isinstance (by decide +kernel) (pa_cons (pv 0) (pa_cons (pe_bltn (v := .ty "bool") (by rfl) B.bool (by decide +kernel) rfl) pa_nil)))))))), ?_⟩
    refine ⟨_, rfl, _, _, _, _, true, rfl, .ty "int", .base (.int i), kit_ty (by decide +kernel), true, rfl, iteT ?_⟩
    exact ⟨_, rfl, _, _, _, _, false, rfl, .ty "bool", .base (.int i), kit_ty (by decide +kernel), false, rfl, q⟩

abbrev s_law_common : Stmt := topS 22
abbrev N_law_common : List Str := ["one", "other", "rest"]
theorem sc_law_common : FnScope N_law_common ["one", "other"] (defScope s_law_common) := ⟨rfl, rfl, rfl, by decide +kernel, rfl, by decide +kernel, by decide +kernel⟩
def sp_law_common (K : PySem.W.Frag) (_ : ErrA) : Sp := fun vs H Q _ => ∃ x y : Int, vs = [.int x, .int y] ∧ 0 ≤ x ∧ 0 ≤ y ∧ Q (.int (gc x y)) H
theorem ok_law_common (D : Stands K mg "_law_common" s_law_common) (B : Bi mg) (Er : ErrOk K mg e) : Keeps P w K mg base 1 "_law_common" ["one", "other"] (sp_law_common K e) := by
  obtain ⟨f, fd, F, mF⟩ := D
  refine ⟨f, fd, ?_, F.binds (ps := ["one", "other"]) (fun _ _ _ _ _ _ us hl => match us, hl with | [_, _], _ => rfl), mF, F.kp⟩
  refine toX (F.ok sc_law_common (fun vs H Q E h => ?_) (fun cdv A outer s H vs Q E hr h => ?_))
  · obtain ⟨x, y, rfl, hx, hy, q⟩ := h
    rfl
  · obtain ⟨x, y, rfl, hx, hy, q⟩ := h
    refine ⟨_, (pss_cons (ps_while PassesOwn.never (pt_cmpR op_gt (pv 1) pe_int (nomark _)) (pss_cons (ps_set (i := 2) sc_law_common.nd rfl (Or.inl rfl) (pe_op op_mod (pv 0) (pv 1)))
      (pss_cons (ps_set (i := 0) sc_law_common.nd rfl (Or.inl rfl) (pv 1))
      (pss_one (ps_set (i := 1) sc_law_common.nd rfl (Or.inl rfl) (pv 2))))))
      (pss_one (ps_ret (pv 0)))), ?_⟩
    refine while_by (fun σ H' => H' = H ∧ ∃ (u v : Int) (r : Option V), σ = [some (.int u), some (.int v), r] ∧ 0 ≤ u ∧ 0 ≤ v ∧ gc u v = gc x y)
      (fun σ _ => match σ with | [_, some (.int v), _] => v.toNat | _ => 0) ⟨rfl, x, y, none, rfl, hx, hy, rfl⟩ ?_ ?_
    · rintro σ H' ⟨rfl, u, v, r, rfl, hu, hv, hg⟩
      refine ⟨_, rfl, _, _, rfl, rfl, _, rfl, ite2 (fun c => ?_) (fun c => ?_)⟩
      · have c := of_decide_eq_true c
        have m1 := Int.emod_nonneg u (b := v) (by omega)
        have m2 := Int.emod_lt_of_pos u c
        refine ⟨_, rfl, _, rfl, _, _, rfl, rfl, c, _, rfl, _, rfl, ⟨rfl, v, u % v, _, rfl, hv, m1, gc_step.trans hg⟩, ?_⟩
        show (u % v).toNat < v.toNat
        omega
      · have c : ¬ 0 < v := fun z => c (decide_eq_true z)
        have v0 : v = 0 := by omega
        subst v0
        rw [gc_zero hu] at hg
        refine ⟨_, rfl, ?_⟩
        rw [hg]
        exact q
    · rintro σ H' Q1 Q2 hq ⟨v, e1, i, j, e2, e3, k, e4, e5⟩
      exact ⟨v, e1, i, j, e2, e3, k, e4, hq _ _ e5⟩

abbrev s_law_lowest : Stmt := topS 23
abbrev N_law_lowest : List Str := ["top", "bottom", "far"]
theorem sc_law_lowest : FnScope N_law_lowest ["top", "bottom"] (defScope s_law_lowest) := ⟨rfl, rfl, rfl, by decide +kernel, rfl, by decide +kernel, by decide +kernel⟩
def sp_law_lowest (K : PySem.W.Frag) (_ : ErrA) : Sp := fun vs H Q _ => ∃ t b : Int, vs = [.int t, .int b] ∧ 0 ≤ t ∧ 1 ≤ b ∧ CDivP t (gc t b) ∧ CDivP b (gc t b) ∧
  ∀ H' p, Same H H' → H p = none → H' p = some (.tup [.int (low t b).1, .int (low t b).2]) → Q (.ref p) H'
theorem ok_law_lowest (D : Stands K mg "_law_lowest" s_law_lowest) (B : Bi mg) (Er : ErrOk K mg e)
    (h_law_common : Keeps P w K mg base 1 "_law_common" ["one", "other"] (sp_law_common K e)) : Keeps P w K mg base 2 "_law_lowest" ["top", "bottom"] (sp_law_lowest K e) := by
  obtain ⟨f, fd, F, mF⟩ := D
  obtain ⟨f_law_common, fd_law_common, G_law_common, b_law_common, m_law_common, k_law_common⟩ := h_law_common
  refine ⟨f, fd, ?_, F.binds (ps := ["top", "bottom"]) (fun _ _ _ _ _ _ us hl => match us, hl with | [_, _], _ => rfl), mF, F.kp⟩
  refine toX (F.ok sc_law_lowest (fun vs H Q E h => ?_) (fun cdv A outer s H vs Q E hr h => ?_))
  · obtain ⟨t, b, rfl, ht, hb, d1, d2, q⟩ := h
    rfl
  · obtain ⟨t, b, rfl, ht, hb, d1, d2, q⟩ := h
    refine ⟨_, (pss_cons (ps_set (i := 2) sc_law_lowest.nd rfl (Or.inl rfl) (pe_call G_law_common (hr.mono (by decide)) (by rfl) m_law_common k_law_common b_law_common .nil passL (pa_cons (pv 0) (pa_cons (pv 1) pa_nil))))
      (pss_one (ps_ret (pe_tup (pa_cons (pe_op op_fdivP (pv 0) (pv 2)) (pa_cons (pe_op op_fdivP (pv 1) (pv 2)) pa_nil)))))), ?_⟩
    have hf := gc_pos (t := t) hb
    refine ⟨_, rfl, _, rfl, t, b, rfl, ht, by omega, ?_⟩
    refine ⟨_, rfl, _, rfl, _, _, rfl, rfl, d1, _, rfl, _, rfl, _, _, rfl, rfl, d2, by show 2 ≤ sizeLine; decide, fun p hp => ?_⟩
    exact q _ p (same_new hp) hp upd_same

abbrev s_law_sum : Stmt := topS 24
abbrev N_law_sum : List Str := ["shares", "top", "bottom", "share"]
theorem sc_law_sum : FnScope N_law_sum ["shares"] (defScope s_law_sum) := ⟨rfl, rfl, rfl, by decide +kernel, rfl, by decide +kernel, by decide +kernel⟩
def sp_law_sum (K : PySem.W.Frag) (_ : ErrA) : Sp := fun vs H Q _ => ∃ (a : Addr) (xs : List Int), vs = [.ref a] ∧ SqL K H a (xs.map V.int) ∧ SumC xs ∧
  ∀ H' p, Same H H' → H p = none → H' p = some (.tup [.int (lowS xs).1, .int (lowS xs).2]) → Q (.ref p) H'
theorem ok_law_sum (D : Stands K mg "_law_sum" s_law_sum) (B : Bi mg) (Er : ErrOk K mg e)
    (h_law_lowest : Keeps P w K mg base 2 "_law_lowest" ["top", "bottom"] (sp_law_lowest K e)) : Keeps P w K mg base 3 "_law_sum" ["shares"] (sp_law_sum K e) := by
  obtain ⟨f, fd, F, mF⟩ := D
  obtain ⟨f_law_lowest, fd_law_lowest, G_law_lowest, b_law_lowest, m_law_lowest, k_law_lowest⟩ := h_law_lowest
  refine ⟨f, fd, ?_, F.binds (ps := ["shares"]) (fun _ _ _ _ _ _ us hl => match us, hl with | [_], _ => rfl), mF, F.kp⟩
  refine toX (F.ok sc_law_sum (fun vs H Q E h => ?_) (fun cdv A outer s H vs Q E hr h => ?_))
  · obtain ⟨a, xs, rfl, hS, ok, q⟩ := h
    rfl
  · obtain ⟨a, xs, rfl, hS, ok, q⟩ := h
    refine ⟨_, (pss_cons (ps_set (i := 1) sc_law_sum.nd rfl (Or.inl rfl) pe_int)
      (pss_cons (ps_set (i := 2) sc_law_sum.nd rfl (Or.inl rfl) pe_int)
      (pss_cons (ps_for PassesOwn.never rfl (pi_list (pv 0)) (pg_name (i := 3) sc_law_sum.nd rfl (Or.inl rfl)) (pss_cons (ps_set (i := 1) sc_law_sum.nd rfl (Or.inl rfl) (pe_op op_add (pe_op op_mulW (pv 1) (pv 3)) (pv 2)))
      (pss_one (ps_set (i := 2) sc_law_sum.nd rfl (Or.inl rfl) (pe_op op_mulW (pv 2) (pv 3))))))
      (pss_one (ps_ret (pe_call G_law_lowest (hr.mono (by decide)) (by rfl) m_law_lowest k_law_lowest b_law_lowest .nil passL (pa_cons (pv 1) (pa_cons (pv 2) pa_nil)))))))), ?_⟩
    refine ⟨_, rfl, a, rfl, ⟨_, hS⟩, for_list (K := K) (a := a) (xs := xs.map V.int) (fun i σ H' => H' = H ∧ ∃ v : Option V, σ = [some (.ref a), some (.int (sumS (xs.take i)).1), some (.int (sumS (xs.take i)).2), v])
      ⟨rfl, none, rfl⟩ (fun i σ H' _ h => h.1 ▸ hS) ?_ ?_⟩
    · rintro i y σ H' hy ⟨rfl, v, rfl⟩
      obtain ⟨s, es, rfl⟩ := of_get_map hy
      obtain ⟨m1, m2⟩ := ok.step es
      refine ⟨_, rfl, _, rfl, _, _, rfl, rfl, m1, _, rfl, _, _, rfl, rfl, _, rfl, _, rfl, _, _, rfl, rfl, m2, rfl, some (.int s), ?_⟩
      rw [take_snoc es, sumS_snoc] <;> rfl
    · rintro σ H' ⟨rfl, v, rfl⟩
      rw [List.length_map, List.take_length]
      obtain ⟨a1, a2, a3⟩ := sumS_pos _ ok.pos
      exact ⟨_, rfl, _, rfl, _, _, rfl, a1, a2, ok.d1, ok.d2, fun H' p s hp e => q H' p s hp e⟩

abbrev s_law_list : Stmt := topS 26
abbrev N_law_list : List Str := ["found", "due", "k"]
theorem sc_law_list : FnScope N_law_list ["found", "due"] (defScope s_law_list) := ⟨rfl, rfl, rfl, by decide +kernel, rfl, by decide +kernel, by decide +kernel⟩
/-- two lists of the same ints -/
def sp_law_list (K : PySem.W.Frag) (_ : ErrA) : Sp := fun vs H Q _ => ∃ (a b : Addr) (xs : List Int), vs = [.ref a, .ref b] ∧ SqL K H a (xs.map V.int) ∧ SqL K H b (xs.map V.int) ∧ xs.length ≤ 1000000 ∧ Q (.bl true) H
theorem ok_law_list (D : Stands K mg "_law_list" s_law_list) (B : Bi mg) (Er : ErrOk K mg e)
    (h_law_whole : Keeps P w K mg base 1 "_law_whole" ["found"] (sp_law_whole K e)) : Keeps P w K mg base 2 "_law_list" ["found", "due"] (sp_law_list K e) := by
  obtain ⟨f, fd, F, mF⟩ := D
  obtain ⟨f_law_whole, fd_law_whole, G_law_whole, b_law_whole, m_law_whole, k_law_whole⟩ := h_law_whole
  refine ⟨f, fd, ?_, F.binds (ps := ["found", "due"]) (fun _ _ _ _ _ _ us hl => match us, hl with | [_, _], _ => rfl), mF, F.kp⟩
  refine toX (F.ok sc_law_list (fun vs H Q E h => ?_) (fun cdv A outer s H vs Q E hr h => ?_))
  · obtain ⟨a, b, xs, rfl, hA, hB, hl, q⟩ := h
    rfl
  · obtain ⟨a, b, xs, rfl, hA, hB, hl, q⟩ := h
    refine ⟨_, (pss_cons (ps_if (PW.pt (pw_or (pt_not (pt_val (pe_callB call_isi (by rfl) B.isinstance (by decide +kernel) (pa_cons (pv 0) (pa_cons (pe_bltn (v := .ty "list") (by rfl) B.list (by decide +kernel) rfl) pa_nil))))) (pw_or1 (pt_cmpR op_ne (pe_callB call_len_seq (by rfl) B.len (by decide +kernel) (pa_cons (pv 0) pa_nil)) (pe_callB call_len_seq (by rfl) B.len (by decide +kernel) (pa_cons (pv 1) pa_nil)) (nomark _))))) (pss_one (ps_ret pe_bl)) pss_nil)
      (pss_cons (ps_for PassesOwn.never rfl (pi_range1 (by rfl) B.range (pa_cons (pe_callB call_len_seq (by rfl) B.len (by decide +kernel) (pa_cons (pv 1) pa_nil)) pa_nil)) (pg_name (i := 2) sc_law_list.nd rfl (Or.inl rfl)) (pss_one (ps_if (PW.pt (pw_or (pt_not (pt_val (pe_call G_law_whole (hr.mono (by decide)) (by rfl) m_law_whole k_law_whole b_law_whole .nil passL (pa_cons (pe_ix ix_list (pv 0) (pv 2) (fun _ _ => rfl)) pa_nil)))) (pw_or1 (pt_cmpR op_ne (pe_ix ix_list (pv 0) (pv 2) (fun _ _ => rfl)) (pe_ix ix_list (pv 1) (pv 2) (fun _ _ => rfl)) (nomark _))))) (pss_one (ps_ret pe_bl)) pss_nil)))
      (pss_one (ps_ret pe_bl)))), ?_⟩
    refine ⟨_, rfl, _, _, _, _, true, rfl, .ty "list", ty_list hA, kit_ty (by decide +kernel), true, rfl, ?_⟩
    show if (!true) = true then _ else _
    refine iteF ?_
    refine ⟨_, rfl, a, _, rfl, .inl hA, _, rfl, b, _, rfl, .inl hB, rfl, _, rfl, ?_⟩
    rw [decide_eq_true rfl]
    refine iteF ?_
    refine ⟨_, rfl, b, _, rfl, .inl hB, _, rfl, by omega, by rw [List.length_map]; omega, ?_⟩
    refine for_range (lo := 0) (n := _) (fun i σ H' => ∃ v : Option V, σ = [some (.ref a), some (.ref b), v] ∧ H' = H) ⟨none, rfl, rfl⟩ ?_ ?_
    · rintro i σ H' hi ⟨v, rfl, rfl⟩
      have hi : i < xs.length := by
        rw [List.length_map] at hi
        omega
      have g : (xs.map V.int)[i]? = some (.int xs[i]) := get_map (List.getElem?_eq_getElem hi)
      have e0 : (0 : Int) + (i : Int) = (i : Int) := by omega
      refine ⟨_, rfl, _, rfl, a, _, _, _, rfl, rfl, hA, by rw [e0]; exact atI_nat g, _, rfl, true, rfl, ?_⟩
      show if (!true) = true then _ else _
      refine iteF ?_
      refine ⟨_, rfl, _, rfl, a, _, _, _, rfl, rfl, hA, by rw [e0]; exact atI_nat g, _, rfl, _, rfl, b, _, _, _, rfl, rfl, hB, by rw [e0]; exact atI_nat g, rfl, _, rfl, ?_⟩
      rw [decide_eq_true rfl]
      exact iteF ⟨_, rfl, rfl⟩
    · rintro σ H' ⟨v, rfl, rfl⟩
      exact q

abbrev s_law_drawn : Stmt := topS 27
abbrev N_law_drawn : List Str := ["script", "first", "bottom", "top", "times"]
theorem sc_law_drawn : FnScope N_law_drawn ["script", "first"] (defScope s_law_drawn) := ⟨rfl, rfl, rfl, by decide +kernel, rfl, by decide +kernel, by decide +kernel⟩
/-- a fraction between nought and one, its bottom at most 1000 -/
def sp_law_drawn (K : PySem.W.Frag) (_ : ErrA) : Sp := fun vs H Q _ => ∃ (a : Addr) (ns : List Int) (f : Nat), vs = [.ref a, .int f] ∧ SqL K H a (ns.map V.int) ∧ ns.length ≤ 63 ∧
  ∀ (t b : Int) H' p, 1 ≤ t → t < b → b ≤ 1000 → Same H H' → H p = none → H' p = some (.tup [.int t, .int b]) → Q (.ref p) H'
theorem ok_law_drawn (D : Stands K mg "_law_drawn" s_law_drawn) (B : Bi mg) (Er : ErrOk K mg e)
    (h_law_cell_at : Keeps P w K mg base 1 "_law_cell_at" ["script", "k"] (sp_law_cell_at K e)) : Keeps P w K mg base 2 "_law_drawn" ["script", "first"] (sp_law_drawn K e) := by
  obtain ⟨f, fd, F, mF⟩ := D
  obtain ⟨f_law_cell_at, fd_law_cell_at, G_law_cell_at, b_law_cell_at, m_law_cell_at, k_law_cell_at⟩ := h_law_cell_at
  refine ⟨f, fd, ?_, F.binds (ps := ["script", "first"]) (fun _ _ _ _ _ _ us hl => match us, hl with | [_, _], _ => rfl), mF, F.kp⟩
  refine toX (F.ok sc_law_drawn (fun vs H Q E h => ?_) (fun cdv A outer s H vs Q E hr h => ?_))
  · obtain ⟨a, ns, f, rfl, hS, hlen, q⟩ := h
    rfl
  · obtain ⟨a, ns, f, rfl, hS, hlen, q⟩ := h
    refine ⟨_, (pss_cons (ps_set (i := 2) sc_law_drawn.nd rfl (Or.inl rfl) (pe_op op_add pe_int (pe_op op_mod (pe_op op_fdivP (pe_call G_law_cell_at (hr.mono (by decide)) (by rfl) m_law_cell_at k_law_cell_at b_law_cell_at .nil passL (pa_cons (pv 0) (pa_cons (pv 1) pa_nil))) pe_int) pe_int)))
      (pss_cons (ps_if (pt_cmpR op_eq (pe_op op_mod (pe_call G_law_cell_at (hr.mono (by decide)) (by rfl) m_law_cell_at k_law_cell_at b_law_cell_at .nil passL (pa_cons (pv 0) (pa_cons (pv 1) pa_nil))) pe_int) pe_int (nomark _)) (pss_one (ps_set (i := 2) sc_law_drawn.nd rfl (Or.inl rfl) (pe_op op_add pe_int (pe_op op_mod (pe_op op_fdivP (pe_call G_law_cell_at (hr.mono (by decide)) (by rfl) m_law_cell_at k_law_cell_at b_law_cell_at .nil passL (pa_cons (pv 0) (pa_cons (pv 1) pa_nil))) pe_int) pe_int)))) pss_nil)
      (pss_cons (ps_set (i := 3) sc_law_drawn.nd rfl (Or.inl rfl) (pe_op op_add pe_int (pe_op op_mod (pe_call G_law_cell_at (hr.mono (by decide)) (by rfl) m_law_cell_at k_law_cell_at b_law_cell_at .nil passL (pa_cons (pv 0) (pa_cons (pe_op op_add (pv 1) pe_int) pa_nil))) (pe_op op_sub (pv 2) pe_int))))
      (pss_cons (ps_set (i := 4) sc_law_drawn.nd rfl (Or.inl rfl) (pe_op op_add pe_int (pe_op op_mod (pe_call G_law_cell_at (hr.mono (by decide)) (by rfl) m_law_cell_at k_law_cell_at b_law_cell_at .nil passL (pa_cons (pv 0) (pa_cons (pe_op op_add (pv 1) pe_int) pa_nil))) pe_int)))
      (pss_cons (ps_if (pt_cmpR op_gt (pe_op op_mulW (pv 2) (pv 4)) pe_int (nomark _)) (pss_one (ps_set (i := 4) sc_law_drawn.nd rfl (Or.inl rfl) pe_int)) pss_nil)
      (pss_one (ps_ret (pe_tup (pa_cons (pe_op op_mulW (pv 3) (pv 4)) (pa_cons (pe_op op_mulW (pv 2) (pv 4)) pa_nil)))))))))), ?_⟩
    refine ⟨_, rfl, _, rfl, a, ns, f, rfl, hS, hlen, _, _, rfl, rfl, (Sz.lit : Sz 3 5).cd (by decide), _, _, rfl, rfl, by show (0 : Int) < 59; decide, _, _, rfl, rfl, ?_⟩
    dsimp only
    refine cut (fun σ' H' => H' = H ∧ ∃ b : Int, 2 ≤ b ∧ b ≤ 1000 ∧ σ' = [some (.ref a), some (.int f), some (.int b), none, none]) (fun R D k => ?_) ?_
    · refine ⟨_, rfl, _, rfl, a, ns, f, rfl, hS, hlen, _, _, rfl, rfl, by show (0 : Int) < 5; decide, rfl, _, rfl, ite2 (fun c => ?_) (fun c => ?_)⟩
      · refine ⟨_, rfl, _, rfl, a, ns, f, rfl, hS, hlen, _, _, rfl, rfl, (Sz.lit : Sz 3 5).cd (by decide), _, _, rfl, rfl, by show (0 : Int) < 999; decide, _, _, rfl, rfl, ?_⟩
        exact k _ _ ⟨rfl, 2 + cell ns f / 5 % 999, by omega, by omega, rfl⟩
      · exact k _ _ ⟨rfl, 2 + cell ns f / 5 % 59, by omega, by omega, rfl⟩
    · rintro σ H' ⟨rfl, b, b1, b2, rfl⟩
      have m1 := Int.emod_nonneg (cell ns (f + 1)) (b := b - 1) (by omega)
      have m2 := Int.emod_lt_of_pos (cell ns (f + 1)) (b := b - 1) (by omega)
      refine ⟨_, rfl, _, rfl, _, _, rfl, rfl, a, ns, f + 1, cell_arg (by omega), hS, hlen, _, rfl, _, _, rfl, rfl, _, _, rfl, rfl, by show 0 < b - 1; omega, _, _, rfl, rfl, ?_⟩
      refine ⟨_, rfl, _, rfl, _, _, rfl, rfl, a, ns, f + 2, cell_arg (by omega), hS, hlen, _, _, rfl, rfl, by show (0 : Int) < 4; decide, _, _, rfl, rfl, ?_⟩
      dsimp only
      obtain ⟨t, et⟩ : ∃ t : Int, 1 + cell ns (f + 1) % (b - 1) = t := ⟨_, rfl⟩
      refine cut (fun σ' H'' => H'' = H' ∧ ∃ m : Int, 1 ≤ m ∧ m ≤ 4 ∧ b * m ≤ 1000 ∧ σ' = [some (.ref a), some (.int f), some (.int b), some (.int t), some (.int m)]) (fun R D k => ?_) ?_
      · rw [et]
        have z1 : Sz 10 b := by
          show b.natAbs < 1024
          omega
        have z2 : Sz 10 (1 + cell ns (f + 2) % 4) := by
          show (1 + cell ns (f + 2) % 4).natAbs < 1024
          omega
        refine ⟨_, rfl, _, rfl, _, _, rfl, rfl, z1.cm z2, _, _, rfl, rfl, _, rfl, ite2 (fun c => ?_) (fun c => ?_)⟩
        · exact k _ _ ⟨rfl, 1, by omega, by omega, by omega, rfl⟩
        · have c : ¬ 1000 < b * (1 + cell ns (f + 2) % 4) := fun z => c (decide_eq_true z)
          exact k _ _ ⟨rfl, 1 + cell ns (f + 2) % 4, by omega, by omega, by omega, rfl⟩
      · rintro σ H2 ⟨rfl, m, h1, h2, h3, rfl⟩
        have zt : Sz 10 t := by
          show t.natAbs < 1024
          omega
        have zb : Sz 10 b := by
          show b.natAbs < 1024
          omega
        have zm : Sz 10 m := by
          show m.natAbs < 1024
          omega
        refine ⟨_, rfl, _, rfl, _, _, rfl, rfl, zt.cm zm, _, rfl, _, rfl, _, _, rfl, rfl, zb.cm zm, by show 2 ≤ sizeLine; decide, fun p hp => ?_⟩
        exact q (t * m) (b * m) _ p (Int.mul_pos (by omega) (by omega)) (Int.mul_lt_mul_of_pos_right (by omega) (by omega)) h3 (same_new hp) hp upd_same

abbrev s_law_kind : Stmt := topS 28
abbrev N_law_kind : List Str := ["e", "kinds"]
theorem sc_law_kind : FnScope N_law_kind ["e"] (defScope s_law_kind) := ⟨rfl, rfl, rfl, by decide +kernel, rfl, by decide +kernel, by decide +kernel⟩
def sp_law_kind (K : PySem.W.Frag) (e : ErrA) : SpE := fun a cls d vs H Q _ => vs = [.ref a] ∧ d = none ∧ ∃ (D : Addr) (b0 b1 b2 b3 b4 b5 : Bool), KindOf K e D b0 b1 b2 b3 b4 b5 ∧ cls = .ref D ∧
  ∀ H' l, Same H H' → H l = none → H' l = some (.lst [.bl b0, .bl b1, .bl b2, .bl b3, .bl b4, .bl b5]) → Q (.ref l) H'
theorem ok_law_kind (D : Stands K mg "_law_kind" s_law_kind) (B : Bi mg) (Er : ErrOk K mg e) : KeepsE P w K mg base 1 "_law_kind" ["e"] (sp_law_kind K e) := by
  obtain ⟨f, fd, F, mF⟩ := D
  have h_NoFraction := Er.NoFraction
  have h_NotBelow := Er.NotBelow
  have h_TooGreat := Er.TooGreat
  have h_BadText := Er.BadText
  have h_NotRising := Er.NotRising
  refine ⟨f, fd, fnE_of F sc_law_kind (fun a cls d vs H Q E h => ?_) (fun cdv A outer s H vs Q E a oe cls d hz hf h => ?_), F.binds (ps := ["e"]) (fun _ _ _ _ _ _ us hl => match us, hl with | [_], _ => rfl), mF, F.kp⟩
  · obtain ⟨rfl, rfl, D, b0, b1, b2, b3, b4, b5, kd, rfl, q⟩ := h
    rfl
  · obtain ⟨rfl, rfl, D, b0, b1, b2, b3, b4, b5, kd, rfl, q⟩ := h
    refine ⟨_, (pss_cons (ps_set (i := 1) sc_law_kind.nd rfl (Or.inl rfl) (pe_lst (pa_cons (pe_callB (call_isP List.mem_cons_self kd.exc hz hf) (by rfl) B.isinstance (by decide +kernel) (pa_cons (pv 0) (pa_cons (pe_glob (v := .ref e.NoFraction) (by rfl) h_NoFraction.g rfl) pa_nil))) (pa_cons (pe_callB (call_isP List.mem_cons_self kd.exc hz hf) (by rfl) B.isinstance (by decide +kernel) (pa_cons (pv 0) (pa_cons (pe_glob (v := .ref e.NotBelow) (by rfl) h_NotBelow.g rfl) pa_nil))) (pa_cons (pe_callB (call_isP List.mem_cons_self kd.exc hz hf) (by rfl) B.isinstance (by decide +kernel) (pa_cons (pv 0) (pa_cons (pe_glob (v := .ref e.TooGreat) (by rfl) h_TooGreat.g rfl) pa_nil))) (pa_cons (pe_callB (call_isP List.mem_cons_self kd.exc hz hf) (by rfl) B.isinstance (by decide +kernel) (pa_cons (pv 0) (pa_cons (pe_glob (v := .ref e.BadText) (by rfl) h_BadText.g rfl) pa_nil))) pa_nil))))))
      (pss_one (ps_ret (pe_op op_cat (pv 1) (pe_lst (pa_cons (pe_callB (call_isP List.mem_cons_self kd.exc hz hf) (by rfl) B.isinstance (by decide +kernel) (pa_cons (pv 0) (pa_cons (pe_glob (v := .ref e.NotRising) (by rfl) h_NotRising.g rfl) pa_nil))) (pa_cons (pe_callB (call_isP List.mem_cons_self kd.exc hz hf) (by rfl) B.isinstance (by decide +kernel) (pa_cons (pv 0) (pa_cons (pe_bltn (v := .ty "ValueError") (by rfl) B.ValueError (by decide +kernel) rfl) pa_nil))) pa_nil))))))), ?_⟩
    refine ⟨_, rfl, _, _, b0, rfl, fun u h => h, kd.k0, _, rfl, _, _, b1, rfl, fun u h => h, kd.k1, _, rfl, _, _, b2, rfl, fun u h => h, kd.k2, _, rfl, _, _, b3, rfl, fun u h => h, kd.k3, by show 4 ≤ sizeLine; decide, fun p np => ?_⟩
    refine ⟨_, rfl, _, rfl, _, _, b4, rfl, fun u h => h, kd.k4, _, rfl, _, _, b5, rfl, fun u h => h, kd.k5, by show 2 ≤ sizeLine; decide, fun r nr => ?_⟩
    have s1 := same_new (o := .lst [.bl b0, .bl b1, .bl b2, .bl b3]) np
    have s2 := same_new (o := .lst [.bl b4, .bl b5]) nr
    refine ⟨p, r, _, _, rfl, rfl, s2 _ _ upd_same, upd_same, by show 6 ≤ sizeLine; decide, fun l nl => ?_⟩
    exact q _ l ((s1.trans s2).trans (same_new nl)) ((s1.trans s2).free nl) upd_same

abbrev s_law_walk : Stmt := topS 29
abbrev N_law_walk : List Str := ["fraction", "top", "bottom", "found", "share", "left"]
theorem sc_law_walk : FnScope N_law_walk ["fraction"] (defScope s_law_walk) := ⟨rfl, rfl, rfl, by decide +kernel, rfl, by decide +kernel, by decide +kernel⟩
def sp_law_walk (K : PySem.W.Frag) (_ : ErrA) : Sp := fun vs H Q _ => ∃ (a : Addr) (t b : Int), vs = [.ref a] ∧ SqT K H a [.int t, .int b] ∧ 0 ≤ t ∧ t < b ∧ b ≤ 1000 ∧
  ∀ H', Same H H' → match gws t b with | none => Q .non H' | some l => ∀ p, H p = none → H' p = some (.lst (l.map V.int)) → Q (.ref p) H'
theorem ok_law_walk (D : Stands K mg "_law_walk" s_law_walk) (B : Bi mg) (Er : ErrOk K mg e)
    (h_law_lowest : Keeps P w K mg base 2 "_law_lowest" ["top", "bottom"] (sp_law_lowest K e)) : Keeps P w K mg base 3 "_law_walk" ["fraction"] (sp_law_walk K e) := by
  obtain ⟨f, fd, F, mF⟩ := D
  obtain ⟨f_law_lowest, fd_law_lowest, G_law_lowest, b_law_lowest, m_law_lowest, k_law_lowest⟩ := h_law_lowest
  refine ⟨f, fd, ?_, F.binds (ps := ["fraction"]) (fun _ _ _ _ _ _ us hl => match us, hl with | [_], _ => rfl), mF, F.kp⟩
  refine toX (F.ok sc_law_walk (fun vs H Q E h => ?_) (fun cdv A outer s H vs Q E hr h => ?_))
  · obtain ⟨a, t, b, rfl, hS, t0, tb, hb, q⟩ := h
    rfl
  · obtain ⟨a, t, b, rfl, hS, t0, tb, hb, q⟩ := h
    refine ⟨_, (pss_cons (ps_set (i := 1) sc_law_walk.nd rfl (Or.inl rfl) (pe_ix ix_tup (pv 0) pe_int (fun _ _ => rfl)))
      (pss_cons (ps_set (i := 2) sc_law_walk.nd rfl (Or.inl rfl) (pe_ix ix_tup (pv 0) pe_int (fun _ _ => rfl)))
      (pss_cons (ps_set (i := 3) sc_law_walk.nd rfl (Or.inl rfl) (pe_lst pa_nil))
      (pss_cons (ps_while PassesOwn.never (pt_cmpR op_gt (pv 1) pe_int (nomark _)) (pss_cons (ps_set (i := 4) sc_law_walk.nd rfl (Or.inl rfl) (pe_op op_fdivP (pv 2) (pv 1)))
      (pss_cons (ps_if (pt_cmpR op_lt (pe_op op_mulW (pv 4) (pv 1)) (pv 2) (nomark _)) (pss_one (ps_set (i := 4) sc_law_walk.nd rfl (Or.inl rfl) (pe_op op_add (pv 4) pe_int))) pss_nil)
      (pss_cons (ps_if (pt_cmpR op_gt (pe_callB call_len_str (by rfl) B.len (by decide +kernel) (pa_cons (pe_callTy (call_str_big rfl Er.dig) (by rfl) B.str (by decide +kernel) (pa_cons (pv 4) pa_nil)) pa_nil)) pe_int (nomark _)) (pss_one (ps_ret pe_non)) pss_nil)
      (pss_cons (ps_expr (pe_bm PySem.F.plainAttrs_list PySem.F.slot_list_append PySem.F.type_list_append mt_append (pv 3) (pa_cons (pv 4) pa_nil)))
      (pss_cons (ps_set (i := 5) sc_law_walk.nd rfl (Or.inl rfl) (pe_call G_law_lowest (hr.mono (by decide)) (by rfl) m_law_lowest k_law_lowest b_law_lowest .nil passL (pa_cons (pe_op op_sub (pe_op op_mulW (pv 1) (pv 4)) (pv 2)) (pa_cons (pe_op op_mulW (pv 2) (pv 4)) pa_nil))))
      (pss_cons (ps_set (i := 1) sc_law_walk.nd rfl (Or.inl rfl) (pe_ix ix_tup (pv 5) pe_int (fun _ _ => rfl)))
      (pss_one (ps_set (i := 2) sc_law_walk.nd rfl (Or.inl rfl) (pe_ix ix_tup (pv 5) pe_int (fun _ _ => rfl)))))))))))
      (pss_one (ps_ret (pv 3))))))), ?_⟩
    refine ⟨_, rfl, a, _, 0, _, rfl, rfl, hS, atI_nat (j := 0) rfl, _, rfl, a, _, 1, _, rfl, rfl, hS, atI_nat (j := 1) rfl, Nat.zero_le _, fun L hL => ?_⟩
    have sL := same_new (o := .lst []) hL
    have zb : Sz 2670 b := ((by show b.natAbs < 1024; omega : Sz 10 b)).mono
    refine while_by (fun σ H' => Same H H' ∧ ∃ (u v : Int) (acc : List Int) (x y : Option V), σ = [some (.ref a), some (.int u), some (.int v), some (.ref L), x, y] ∧ H' L = some (.lst (acc.map V.int)) ∧
        0 ≤ u ∧ u < v ∧ u ≤ 1000 ∧ Sz 2670 v ∧ gws t b = (gws u v).map (acc ++ ·) ∧ (acc.length : Int) + u ≤ 1000)
      (fun σ _ => match σ with | _ :: some (.int u) :: _ => u.toNat | _ => 0) ⟨sL, t, b, [], none, none, rfl, upd_same, t0, tb, by omega, zb, by simp, by show (0 : Int) + t ≤ 1000; omega⟩ ?_ ?_
    · rintro σ H2 ⟨s2, u, v, acc, x, y, rfl, eL, u0, uv, ub, zv, er, al⟩
      refine ⟨_, rfl, _, _, rfl, rfl, _, rfl, ite2 (fun c => ?_) (fun c => ?_)⟩
      · have c : 0 < u := of_decide_eq_true c
        have zu : Sz 10 u := by
          show u.natAbs < 1024
          omega
        have v1 : 1 ≤ v := by omega
        have n1 := upF_pos (B := v) (T := u) (by omega) v1
        have n2 := upF_le (B := v) (T := u) (by omega) v1
        have hi := upF_hi (B := v) (T := u) (by omega)
        have zd : Sz 2670 (v / u) := zv.le (Int.ediv_nonneg (by omega) (by omega)) (Int.ediv_le_self _ (by omega))
        refine ⟨_, rfl, _, rfl, _, _, rfl, rfl, (zu.mono : Sz 9000 u).cd c, ?_⟩
        dsimp only
        refine cut (fun σ' H' => H' = H2 ∧ σ' = [some (.ref a), some (.int u), some (.int v), some (.ref L), some (.int (upF v u)), y]) (fun R D k => ?_) ?_
        · refine ⟨_, rfl, _, rfl, _, _, rfl, rfl, zd.cm zu, _, rfl, _, _, rfl, rfl, _, rfl, ite2 (fun z => ?_) (fun z => ?_)⟩
          · have z : v / u * u < v := of_decide_eq_true z
            have e := up_law (T := u) (B := v) (by omega)
            rw [if_pos z] at e
            refine ⟨_, rfl, _, _, rfl, rfl, k _ _ ⟨rfl, ?_⟩⟩
            rw [← e] <;> rfl
          · have z : ¬ v / u * u < v := fun w => z (decide_eq_true w)
            have e := up_law (T := u) (B := v) (by omega)
            rw [if_neg z] at e
            refine k _ _ ⟨rfl, ?_⟩
            rw [← e] <;> rfl
        · rintro σ H' ⟨rfl, rfl⟩
          have zs : Sz 2700 (upF v u) := (zv.mono : Sz 2700 v).le (by omega) n2
          refine ⟨_, rfl, _, rfl, Nat.lt_trans zs big4300, _, rfl, slen_fits (by omega) zs, _, _, rfl, rfl, _, rfl, ?_⟩
          rw [big_dec]
          refine ite2 (fun bg => ?_) (fun bg => ?_)
          · have bg := of_decide_eq_true bg
            rw [show gws u v = none from gws_big (by omega) bg] at er
            have k := q H' s2
            rw [er] at k
            exact k
          · have bg : ¬ Big (upF v u) := fun z => bg (decide_eq_true z)
            obtain ⟨y1, y2, y3, y4⟩ := lft_sz (T := u) (B := v) (by omega) v1 ub bg
            refine ⟨_, rfl, .inl ⟨rfl, _, SqL.of eL⟩, _, rfl, L, _, _, rfl, rfl, eL, by
              rw [List.length_map]
              exact szl_lt (by omega), ?_⟩
            have s3 := same_mut (o := .lst (acc.map V.int ++ [.int (upF v u)])) s2 hL
            have eL3 : (upd H' L (.lst (acc.map V.int ++ [.int (upF v u)]))) L = some (.lst ((acc ++ [upF v u]).map V.int)) := by
              rw [upd_same, List.map_append] <;> rfl
            generalize (upd H' L (.lst (acc.map V.int ++ [.int (upF v u)]))) = H3 at s3 eL3
            have vp : 1 ≤ v * upF v u := Int.mul_pos (by omega) (by omega)
            have nn := nxt_nn (B := v) (T := u) (by omega)
            have e1 : u * upF v u - v = nxt u v := rfl
            obtain ⟨d1, d2⟩ := low_divs (t := nxt u v) vp ((y1.mul y2).mono)
            refine ⟨_, rfl, _, rfl, _, _, rfl, rfl, zu.cm y2, _, rfl, _, _, rfl, rfl, _, rfl, _, rfl, _, _, rfl, rfl, y1.cm y2, _, _, rfl, nn, vp, d1, d2, fun H4 r s4 nr er4 => ?_⟩
            have er4 : H4 r = some (.tup [.int (lft u v).1, .int (lft u v).2]) := er4
            have k1 := lft_nn (T := u) (B := v) (by omega) v1
            have k5 := lft_below (T := u) (B := v) (by omega) v1 uv
            have k4 := lft_lt (T := u) (B := v) (by omega)
            refine ⟨_, rfl, r, _, 0, _, rfl, rfl, SqT.of er4, atI_nat (j := 0) rfl, _, rfl, r, _, 1, _, rfl, rfl, SqT.of er4, atI_nat (j := 1) rfl, ⟨s3.trans s4, _, _, acc ++ [upF v u], _, _, rfl, s4 _ _ eL3, k1, k5, y4, y3, ?_, ?_⟩, ?_⟩
            · rw [er, show gws u v = _ from gws_cons (by omega) bg, Option.map_map]
              congr 1
              funext l
              simp
            · rw [List.length_append, List.length_singleton]
              omega
            · show (lft u v).1.toNat < u.toNat
              omega
      · have c : ¬ 0 < u := fun z => c (decide_eq_true z)
        rw [show gws u v = some [] from gws_nil (by omega)] at er
        have er : gws t b = some (acc ++ []) := er
        rw [List.append_nil] at er
        have k := q H2 s2
        rw [er] at k
        exact ⟨_, rfl, k L hL eL⟩
    · rintro σ H' Q1 Q2 hq ⟨v, e1, i, j, e2, e3, k, e4, e5⟩
      exact ⟨v, e1, i, j, e2, e3, k, e4, hq _ _ e5⟩

abbrev s_law_tried : Stmt := topS 30
abbrev N_law_tried : List Str := ["fraction", "found", "kinds", "e"]
theorem sc_law_tried : FnScope N_law_tried ["fraction"] (defScope s_law_tried) := ⟨rfl, rfl, rfl, by decide +kernel, rfl, by decide +kernel, by decide +kernel⟩
def sp_law_tried (K : PySem.W.Frag) (e : ErrA) : Sp := fun vs H Q _ => ∃ (a : Addr) (t b : Int), vs = [.ref a] ∧ SqT K H a [.int t, .int b] ∧ 1 ≤ t ∧ t < b ∧ b ≤ 1000 ∧
  (gws (low t b).1 (low t b).2 = none → ∀ H' p l, Same H H' → H' p = some (.tup [.non, .ref l]) → H' l = some (.lst [.bl false, .bl false, .bl true, .bl false, .bl false, .bl true]) → Q (.ref p) H') ∧
  (∀ xs, gws (low t b).1 (low t b).2 = some xs → ∀ H' p l r, Same H H' → H' p = some (.tup [.ref r, .ref l]) → H' l = some (.lst []) → H r = none → H' r = some (.lst (xs.map V.int)) → Q (.ref p) H')
theorem ok_law_tried (D : Stands K mg "_law_tried" s_law_tried) (B : Bi mg) (Er : ErrOk K mg e)
    (h_greatest_first : Keeps P w K mg base 4 "greatest_first" ["fraction"] (sp_greatest_first K e))
    (h_law_kind : KeepsE P w K mg base 1 "_law_kind" ["e"] (sp_law_kind K e)) : Keeps P w K mg base 5 "_law_tried" ["fraction"] (sp_law_tried K e) := by
  obtain ⟨f, fd, F, mF⟩ := D
  obtain ⟨f_greatest_first, fd_greatest_first, G_greatest_first, b_greatest_first, m_greatest_first, k_greatest_first⟩ := h_greatest_first
  obtain ⟨f_law_kind, fd_law_kind, G_law_kind, b_law_kind, m_law_kind, k_law_kind⟩ := h_law_kind
  have h_ShareError := Er.ShareError
  refine ⟨f, fd, ?_, F.binds (ps := ["fraction"]) (fun _ _ _ _ _ _ us hl => match us, hl with | [_], _ => rfl), mF, F.kp⟩
  refine toX (F.ok sc_law_tried (fun vs H Q E h => ?_) (fun cdv A outer s H vs Q E hr h => ?_))
  · obtain ⟨a, t, b, rfl, hS, t1, tb, hb, q0, q⟩ := h
    rfl
  · obtain ⟨a, t, b, rfl, hS, t1, tb, hb, q0, q⟩ := h
    refine ⟨_, (pss_cons (ps_set (i := 1) sc_law_tried.nd rfl (Or.inl rfl) pe_non)
      (pss_cons (ps_set (i := 2) sc_law_tried.nd rfl (Or.inl rfl) (pe_lst pa_nil))
      (pss_cons (ps_try_as (i := 3) rfl rfl sc_law_tried.nd rfl rfl ⟨by rfl, by decide, .inl h_ShareError.g⟩ takes0 (fun W pn xe tk _ => (pss_one (ps_set (i := 1) sc_law_tried.nd rfl (Or.inl rfl) (pe_callS G_greatest_first (hr.mono (by decide)) (by rfl) m_greatest_first k_greatest_first b_greatest_first (fun σ => passAt tk σ) (pa_cons (pv 0) pa_nil)))))
      (fun a oe cls d pn hz hf => (pss_one (ps_set (i := 2) sc_law_tried.nd rfl (Or.inl rfl) (pe_callE G_law_kind (roomE hr (by decide)) List.mem_cons_self hz hf (by rfl) m_law_kind k_law_kind b_law_kind (pa_cons (pv 3) pa_nil))))))
      (pss_one (ps_ret (pe_tup (pa_cons (pv 1) (pa_cons (pv 2) pa_nil)))))))), ?_⟩
    refine ⟨Nat.zero_le _, fun l nl => ?_⟩
    have s1 := same_new (o := .lst []) nl
    have el : (upd H l (.lst [])) l = some (.lst []) := upd_same
    dsimp only
    generalize (upd H l (.lst [])) = H1 at s1 el
    refine ⟨_, rfl, a, t, b, rfl, same_tup s1 hS, hb, fun z => absurd z (by omega), fun _ _ z => absurd z (by omega), fun _ _ no H2 s2 => ?_, fun _ _ xs es H2 r s2 nr er => ?_⟩
    · refine ⟨true, Er.sub_TooGreat, fun _ x nx => ?_, fun z => nomatch z⟩
      refine ⟨_, rfl, rfl, rfl, _, _, _, _, _, _, _, Er.kind_TooGreat, rfl, fun H3 m s3 nm em => ?_⟩
      refine ⟨_, rfl, _, rfl, by show 2 ≤ sizeLine; decide, fun p np => ?_⟩
      exact q0 no _ p m (((s1.trans s2).trans s3).trans (same_new np)) upd_same (same_new np _ _ em)
    · refine ⟨_, rfl, _, rfl, by show 2 ≤ sizeLine; decide, fun p np => ?_⟩
      exact q xs es _ p l r ((s1.trans s2).trans (same_new np)) upd_same (same_new np _ _ (s2 _ _ el)) (s1.free nr) (same_new np _ _ er)

abbrev s_law : Stmt := topS 31
abbrev N_law : List Str := ["script", "fraction", "least", "due", "tried", "k"]
theorem sc_law : FnScope N_law ["script"] (defScope s_law) := ⟨rfl, rfl, rfl, by decide +kernel, rfl, by decide +kernel, by decide +kernel⟩
def sp_law (K : PySem.W.Frag) : Sp := fun vs H Q _ => ∃ (a : Addr) (ns : List Int), vs = [.ref a] ∧ SqL K H a (ns.map V.int) ∧ ns.length ≤ 63 ∧ ∀ H', Q (.bl true) H'
theorem ok_law {f : Addr} {fd : FuncData} (F : Fun K "law" "law" s_law f fd) (B : Bi mg) (Er : ErrOk K mg e)
    (h_law_drawn : Keeps P w K mg base 2 "_law_drawn" ["script", "first"] (sp_law_drawn K e))
    (h_law_lowest : Keeps P w K mg base 2 "_law_lowest" ["top", "bottom"] (sp_law_lowest K e))
    (h_law_walk : Keeps P w K mg base 3 "_law_walk" ["fraction"] (sp_law_walk K e))
    (h_law_tried : Keeps P w K mg base 5 "_law_tried" ["fraction"] (sp_law_tried K e))
    (h_law_list : Keeps P w K mg base 2 "_law_list" ["found", "due"] (sp_law_list K e))
    (h_greatest_first : Keeps P w K mg base 4 "greatest_first" ["fraction"] (sp_greatest_first K e))
    (h_law_sum : Keeps P w K mg base 3 "_law_sum" ["shares"] (sp_law_sum K e)) : FnOk P w K mg base CX0 6 f fd ["script"] (sp_law K) := by
  obtain ⟨f_law_drawn, fd_law_drawn, G_law_drawn, b_law_drawn, m_law_drawn, k_law_drawn⟩ := h_law_drawn
  obtain ⟨f_law_lowest, fd_law_lowest, G_law_lowest, b_law_lowest, m_law_lowest, k_law_lowest⟩ := h_law_lowest
  obtain ⟨f_law_walk, fd_law_walk, G_law_walk, b_law_walk, m_law_walk, k_law_walk⟩ := h_law_walk
  obtain ⟨f_law_tried, fd_law_tried, G_law_tried, b_law_tried, m_law_tried, k_law_tried⟩ := h_law_tried
  obtain ⟨f_law_list, fd_law_list, G_law_list, b_law_list, m_law_list, k_law_list⟩ := h_law_list
  obtain ⟨f_greatest_first, fd_greatest_first, G_greatest_first, b_greatest_first, m_greatest_first, k_greatest_first⟩ := h_greatest_first
  obtain ⟨f_law_sum, fd_law_sum, G_law_sum, b_law_sum, m_law_sum, k_law_sum⟩ := h_law_sum
  refine F.ok sc_law (fun vs H Q E h => ?_) (fun cdv A outer s H vs Q E hr h => ?_)
  · obtain ⟨a, ns, rfl, _⟩ := h
    rfl
  · obtain ⟨a, ns, rfl, hS, hlen, kq⟩ := h
    refine ⟨_, (pss_cons (ps_set (i := 1) sc_law.nd rfl (Or.inl rfl) (pe_call G_law_drawn (hr.mono (by decide)) (by rfl) m_law_drawn k_law_drawn b_law_drawn .nil passL (pa_cons (pv 0) (pa_cons pe_int pa_nil))))
      (pss_cons (ps_set (i := 2) sc_law.nd rfl (Or.inl rfl) (pe_call G_law_lowest (hr.mono (by decide)) (by rfl) m_law_lowest k_law_lowest b_law_lowest .nil passL (pa_cons (pe_ix ix_tup (pv 1) pe_int (fun _ _ => rfl)) (pa_cons (pe_ix ix_tup (pv 1) pe_int (fun _ _ => rfl)) pa_nil))))
      (pss_cons (ps_set (i := 3) sc_law.nd rfl (Or.inl rfl) (pe_call G_law_walk (hr.mono (by decide)) (by rfl) m_law_walk k_law_walk b_law_walk .nil passL (pa_cons (pv 2) pa_nil)))
      (pss_cons (ps_set (i := 4) sc_law.nd rfl (Or.inl rfl) (pe_call G_law_tried (hr.mono (by decide)) (by rfl) m_law_tried k_law_tried b_law_tried .nil passL (pa_cons (pv 1) pa_nil)))
      (pss_cons (ps_if (pt_cmpR op_isN (pv 3) pe_non (nomark _)) (pss_one (ps_ret (pe_cmpR (op_eqD hr.units) (pv 4) (pe_tup (pa_cons pe_non (pa_cons (pe_lst (pa_cons pe_bl (pa_cons pe_bl (pa_cons pe_bl (pa_cons pe_bl (pa_cons pe_bl (pa_cons pe_bl pa_nil))))))) pa_nil))) (nomark _)))) pss_nil)
      (pss_cons (ps_if (PW.pt (pw_or (pt_cmpR (op_neD hr.units) (pe_ix ix_tup (pv 4) pe_int (fun _ _ => rfl)) (pe_lst pa_nil) (nomark _)) (pw_or (pt_not (pt_val (pe_call G_law_list (hr.mono (by decide)) (by rfl) m_law_list k_law_list b_law_list .nil passL (pa_cons (pe_ix ix_tup (pv 4) pe_int (fun _ _ => rfl)) (pa_cons (pv 3) pa_nil))))) (pw_or (pt_cmpR op_gt (pe_callB call_len_seq (by rfl) B.len (by decide +kernel) (pa_cons (pv 3) pa_nil)) (pe_ix ix_tup (pv 2) pe_int (fun _ _ => rfl)) (nomark _)) (pw_or1 (pt_cmpR (op_neD hr.units) (pe_call G_law_sum (hr.mono (by decide)) (by rfl) m_law_sum k_law_sum b_law_sum .nil passL (pa_cons (pv 3) pa_nil)) (pv 2) (nomark _))))))) (pss_one (ps_ret pe_bl)) pss_nil)
      (pss_cons (ps_for PassesOwn.never rfl (pi_range2 (by rfl) B.range (pa_cons pe_int (pa_cons (pe_callB call_len_seq (by rfl) B.len (by decide +kernel) (pa_cons (pv 3) pa_nil)) pa_nil))) (pg_name (i := 5) sc_law.nd rfl (Or.inl rfl)) (pss_one (ps_if (pt_cmpR op_le (pe_ix ix_list (pv 3) (pv 5) (fun _ _ => rfl)) (pe_op op_mulW (pe_ix ix_list (pv 3) (pe_op op_sub (pv 5) pe_int) (fun _ _ => rfl)) (pe_op op_sub (pe_ix ix_list (pv 3) (pe_op op_sub (pv 5) pe_int) (fun _ _ => rfl)) pe_int)) (nomark _)) (pss_one (ps_ret pe_bl)) pss_nil)))
      (pss_cons (ps_expr (pe_bm0 PySem.F.plainAttrs_list PySem.F.slot_list_clear PySem.F.type_list_clear mt_clear (pe_ix ix_tup (pv 4) pe_int (fun _ _ => rfl))))
      (pss_one (ps_ret (pe_call G_law_list (hr.mono (by decide)) (by rfl) m_law_list k_law_list b_law_list .nil passL (pa_cons (pe_call G_greatest_first (hr.mono (by decide)) (by rfl) m_greatest_first k_greatest_first b_greatest_first .nil passL (pa_cons (pv 1) pa_nil)) (pa_cons (pv 3) pa_nil))))))))))))), ?_⟩
    refine ⟨_, rfl, a, ns, 0, rfl, hS, hlen, fun t b H1 f t1 tb b2 s1 nf ef => ?_⟩
    have z9 : Sz 9000 b := Sz.mono (a := 10) (by show b.natAbs < 1024; omega)
    obtain ⟨d1, d2⟩ := low_divs (t := t) (by omega : 1 ≤ b) z9
    obtain ⟨w1, w2, w3, w4⟩ := low_drawn t1 tb
    have ll : low (low t b).1 (low t b).2 = low t b := low_low (by omega : 1 ≤ b)
    refine ⟨_, rfl, f, _, 0, _, rfl, rfl, SqT.of ef, atI_nat (j := 0) rfl, _, rfl, f, _, 1, _, rfl, rfl, SqT.of ef, atI_nat (j := 1) rfl, t, b, rfl, by omega, by omega, d1, d2, fun H2 l s2 nl el => ?_⟩
    have ef2 := s2 _ _ ef
    refine ⟨_, rfl, l, _, _, rfl, SqT.of el, by omega, w2, by omega, fun H3 s3 => ?_⟩
    have ef3 := s3 _ _ ef2
    have el3 := s3 _ _ el
    cases eg : gws (low t b).1 (low t b).2 with
    | none =>
      refine ⟨_, rfl, f, t, b, rfl, SqT.of ef3, t1, tb, b2, fun _ H4 p m s4 ep em => ?_, fun xs z => absurd z (by rw [eg]; simp)⟩
      refine ⟨_, rfl, rfl, _, rfl, ?_⟩
      rw [decide_eq_true rfl]
      refine iteT ?_
      refine ⟨_, rfl, by show 6 ≤ sizeLine; decide, fun l2 nl2 => ⟨by show 2 ≤ sizeLine; decide, fun p2 np2 => ?_⟩⟩
      have s8 := (same_new (o := .lst [.bl false, .bl false, .bl true, .bl false, .bl false, .bl true]) nl2).trans (same_new (o := .tup [.non, .ref l2]) np2)
      refine ⟨_, _, dp_noneK (s8 _ _ ep) (s8 _ _ em), dp_noneK upd_same (same_new np2 _ _ upd_same), rfl, rfl, ?_⟩
      rw [eqv_noneK]
      exact kq _
    | some xs =>
      refine fun D nD eD => ?_
      refine ⟨_, rfl, f, t, b, rfl, SqT.of ef3, t1, tb, b2, fun z => absurd z (by rw [eg]; simp), fun ys ey H4 p m r s4 ep em nr er => ?_⟩
      rw [eg] at ey
      cases ey
      have ok := gws_ok (by omega) w2 (by omega) eg
      obtain ⟨g1, g2⟩ := gws_grows _ _ _ (by omega) w2 eg
      have gl := gws_len _ _ _ (by omega) w2 eg (by omega)
      have lows := low_gws (by omega) w2 (by omega) eg ok.pos
      rw [ll] at lows
      have eD4 := s4 _ _ eD
      have el4 := s4 _ _ el3
      have ef4 := s4 _ _ ef3
      have rD : r ≠ D := fun z => by
        rw [z] at nr
        rw [nr] at eD
        cases eD
      have rf : r ≠ f := fun z => by
        rw [z] at nr
        rw [nr] at ef3
        cases ef3
      refine ⟨_, rfl, rfl, _, rfl, ?_⟩
      rw [decide_eq_false (fun z => nomatch z)]
      refine iteF ?_
      refine ⟨_, rfl, p, _, 1, _, rfl, rfl, SqT.of ep, atI_nat (j := 1) rfl, Nat.zero_le _, fun l2 nl2 => ?_⟩
      have s8 := same_new (o := .lst []) nl2
      refine ⟨_, _, dp_ints (xs := []) (SqL.of (s8 _ _ em)), dp_ints (xs := []) (SqL.of upd_same), rfl, rfl, _, rfl, ?_⟩
      rw [eqv_ints, decide_eq_true rfl]
      show if (!true) = true then _ else _
      refine iteF ?_
      have ep5 := s8 _ _ ep
      have er5 := s8 _ _ er
      have eD5 := s8 _ _ eD4
      have el5 := s8 _ _ el4
      have ef5 := s8 _ _ ef4
      generalize upd H4 l2 (.lst []) = H5 at ep5 er5 eD5 el5 ef5
      refine ⟨_, rfl, p, _, 0, _, rfl, rfl, SqT.of ep5, atI_nat (j := 0) rfl, _, rfl, r, D, xs, rfl, SqL.of er5, SqL.of eD5, by omega, _, rfl, ?_⟩
      show if (!true) = true then _ else _
      refine iteF ?_
      refine ⟨_, rfl, D, _, rfl, .inl (SqL.of eD5), _, rfl, l, _, 0, _, rfl, rfl, SqT.of el5, atI_nat (j := 0) rfl, _, _, rfl, rfl, _, rfl, ?_⟩
      rw [List.length_map, decide_eq_false (by omega)]
      refine iteF ?_
      refine ⟨_, rfl, D, xs, rfl, SqL.of eD5, ok.c, fun H6 s s6 ns es => ?_⟩
      rw [lows] at es
      refine ⟨_, rfl, _, _, dp_pair (SqT.of es), dp_pair (SqT.of (s6 _ _ el5)), rfl, rfl, _, rfl, ?_⟩
      rw [eqv_pair, decide_eq_true ⟨rfl, rfl⟩]
      show if (!true) = true then _ else _
      refine iteF ?_
      have ep6 := s6 _ _ ep5
      have er6 := s6 _ _ er5
      have eD6 := s6 _ _ eD5
      have ef6 := s6 _ _ ef5
      refine ⟨_, rfl, D, _, rfl, .inl (SqL.of eD6), 1, _, rfl, ⟨by decide, by decide, by omega, by rw [List.length_map]; omega⟩, ?_⟩
      have en : (((xs.map V.int).length : Int) - 1).toNat = xs.length - 1 := by
        rw [List.length_map]
        omega
      rw [en]
      refine for_range (lo := 1) (n := _) (fun i σ H' => H' = H6 ∧ ∃ v : Option V, σ = [some (.ref a), some (.ref f), some (.ref l), some (.ref D), some (.ref p), v]) ⟨rfl, none, rfl⟩ ?_ ?_
      · rintro i σ H' hi ⟨rfl, v, rfl⟩
        have i1 : i < xs.length := by omega
        have i2 : i + 1 < xs.length := by omega
        have e1 := List.getElem?_eq_getElem i1
        have e2 := List.getElem?_eq_getElem i2
        have a1 : (xs.map V.int)[i]? = some (.int xs[i]) := get_map e1
        have a2 : (xs.map V.int)[i + 1]? = some (.int xs[i + 1]) := get_map e2
        have gr := grows_at g2 e1 e2
        obtain ⟨x1, x2⟩ := ok.item e1
        refine ⟨_, rfl, _, rfl, D, _, _, _, rfl, rfl, SqL.of eD6, at_of (j := i + 1) (by omega) a2, _, rfl, _, rfl, _, _, rfl, rfl, D, _, _, _, rfl, rfl, SqL.of eD6, at_of (j := i) (by omega) a1, ?_⟩
        refine ⟨_, rfl, _, rfl, _, _, rfl, rfl, D, _, _, _, rfl, rfl, SqL.of eD6, at_of (j := i) (by omega) a1, _, _, rfl, rfl, _, _, rfl, rfl, x2.cm (x2.sub Sz.one), _, _, rfl, rfl, _, rfl, ?_⟩
        rw [decide_eq_false (by omega)]
        exact iteF ⟨rfl, _, rfl⟩
      · rintro σ H' ⟨rfl, v, rfl⟩
        refine ⟨_, rfl, p, _, 0, _, rfl, rfl, SqT.of ep6, atI_nat (j := 0) rfl, .inl ⟨rfl, _, SqL.of er6⟩, r, _, rfl, rfl, er6, ?_⟩
        have ef7 : (upd H' r (.lst [])) f = some (.tup [.int t, .int b]) := by
          rw [upd_ne rf.symm]
          exact ef6
        have eD7 : (upd H' r (.lst [])) D = some (.lst (xs.map V.int)) := by
          rw [upd_ne rD.symm]
          exact eD6
        generalize upd H' r (.lst []) = H7 at ef7 eD7
        refine ⟨_, rfl, f, t, b, rfl, SqT.of ef7, b2, fun z => absurd z (by omega), fun _ _ z => absurd z (by omega), fun _ _ z => absurd z (by rw [eg]; simp), fun _ _ ys ey H8 x s9 nx ex => ?_⟩
        rw [eg] at ey
        cases ey
        exact ⟨_, rfl, x, D, _, rfl, SqL.of ex, SqL.of (s9 _ _ eD7), by omega, kq _⟩

end

theorem all_mk {l : PySem.W.OpenLaw} {w : World} {K : PySem.W.Frag} {h : Heap} {mg : Str → Option Value} {fa : Addr} (X : K.In h) (G : h.Ns mainGlobals mg) (hfa : mg "law" = some (.ref fa))
    {f0 : Addr} {od0 an0 : Option Addr} {sl0 : Array (Option Value)} {oc0 kV0 dc0 pm0 cd0 ct0 : Value}
    {f1 : Addr} {od1 an1 : Option Addr} {sl1 : Array (Option Value)} {oc1 kV1 dc1 pm1 cd1 ct1 : Value}
    {f2 : Addr} {od2 an2 : Option Addr} {sl2 : Array (Option Value)} {oc2 kV2 dc2 pm2 cd2 ct2 : Value}
    {f3 : Addr} {od3 an3 : Option Addr} {sl3 : Array (Option Value)} {oc3 kV3 dc3 pm3 cd3 ct3 : Value}
    {f4 : Addr} {od4 an4 : Option Addr} {sl4 : Array (Option Value)} {oc4 kV4 dc4 pm4 cd4 ct4 : Value}
    {f5 : Addr} {od5 an5 : Option Addr} {sl5 : Array (Option Value)} {oc5 kV5 dc5 pm5 cd5 ct5 : Value}
    {f6 : Addr} {od6 an6 : Option Addr} {sl6 : Array (Option Value)} {oc6 kV6 dc6 pm6 cd6 ct6 : Value}
    {f7 : Addr} {od7 an7 : Option Addr} {sl7 : Array (Option Value)} {oc7 kV7 dc7 pm7 cd7 ct7 : Value}
    {f8 : Addr} {od8 an8 : Option Addr} {sl8 : Array (Option Value)} {oc8 kV8 dc8 pm8 cd8 ct8 : Value}
    {f9 : Addr} {od9 an9 : Option Addr} {sl9 : Array (Option Value)} {oc9 kV9 dc9 pm9 cd9 ct9 : Value}
    {f10 : Addr} {od10 an10 : Option Addr} {sl10 : Array (Option Value)} {oc10 kV10 dc10 pm10 cd10 ct10 : Value}
    {f11 : Addr} {od11 an11 : Option Addr} {sl11 : Array (Option Value)} {oc11 kV11 dc11 pm11 cd11 ct11 : Value}
    {f12 : Addr} {od12 an12 : Option Addr} {sl12 : Array (Option Value)} {oc12 kV12 dc12 pm12 cd12 ct12 : Value}
    {f13 : Addr} {od13 an13 : Option Addr} {sl13 : Array (Option Value)} {oc13 kV13 dc13 pm13 cd13 ct13 : Value}
    {f14 : Addr} {od14 an14 : Option Addr} {sl14 : Array (Option Value)} {oc14 kV14 dc14 pm14 cd14 ct14 : Value}
    {f15 : Addr} {od15 an15 : Option Addr} {sl15 : Array (Option Value)} {oc15 kV15 dc15 pm15 cd15 ct15 : Value}
    {f16 : Addr} {od16 an16 : Option Addr} {sl16 : Array (Option Value)} {oc16 kV16 dc16 pm16 cd16 ct16 : Value}
    {f17 : Addr} {od17 an17 : Option Addr} {sl17 : Array (Option Value)} {oc17 kV17 dc17 pm17 cd17 ct17 : Value}
    {f18 : Addr} {od18 an18 : Option Addr} {sl18 : Array (Option Value)} {oc18 kV18 dc18 pm18 cd18 ct18 : Value}
    {f19 : Addr} {od19 an19 : Option Addr} {sl19 : Array (Option Value)} {oc19 kV19 dc19 pm19 cd19 ct19 : Value}
    {tk_MOST : Tok}
    {CShareError : Addr}
    {CNoFraction : Addr}
    {CNotBelow : Addr}
    {CTooGreat : Addr}
    {CBadText : Addr}
    {CNotRising : Addr}
    (a0 : PySem.W.nsIn K mainGlobals "see" = some (some (.ref f0)))
    (l0 : K.lookup f0 = some ⟨oc0, od0, .func (PySem.W.fnOf "see" "see" (defArgs s_see) (defBody s_see) (defScope s_see) .none kV0 dc0 pm0 an0 cd0 ct0), sl0⟩)
    (c0 : PySem.W.codeIn K cd0 "see" = true)
    (k0 : PySem.W.keepIn K (.ref f0) = true)
    (a1 : PySem.W.nsIn K mainGlobals "common" = some (some (.ref f1)))
    (l1 : K.lookup f1 = some ⟨oc1, od1, .func (PySem.W.fnOf "common" "common" (defArgs s_common) (defBody s_common) (defScope s_common) .none kV1 dc1 pm1 an1 cd1 ct1), sl1⟩)
    (c1 : PySem.W.codeIn K cd1 "common" = true)
    (k1 : PySem.W.keepIn K (.ref f1) = true)
    (a2 : PySem.W.nsIn K mainGlobals "lowest" = some (some (.ref f2)))
    (l2 : K.lookup f2 = some ⟨oc2, od2, .func (PySem.W.fnOf "lowest" "lowest" (defArgs s_lowest) (defBody s_lowest) (defScope s_lowest) .none kV2 dc2 pm2 an2 cd2 ct2), sl2⟩)
    (c2 : PySem.W.codeIn K cd2 "lowest" = true)
    (k2 : PySem.W.keepIn K (.ref f2) = true)
    (a3 : PySem.W.nsIn K mainGlobals "less" = some (some (.ref f3)))
    (l3 : K.lookup f3 = some ⟨oc3, od3, .func (PySem.W.fnOf "less" "less" (defArgs s_less) (defBody s_less) (defScope s_less) .none kV3 dc3 pm3 an3 cd3 ct3), sl3⟩)
    (c3 : PySem.W.codeIn K cd3 "less" = true)
    (k3 : PySem.W.keepIn K (.ref f3) = true)
    (a4 : PySem.W.nsIn K mainGlobals "taken" = some (some (.ref f4)))
    (l4 : K.lookup f4 = some ⟨oc4, od4, .func (PySem.W.fnOf "taken" "taken" (defArgs s_taken) (defBody s_taken) (defScope s_taken) .none kV4 dc4 pm4 an4 cd4 ct4), sl4⟩)
    (c4 : PySem.W.codeIn K cd4 "taken" = true)
    (k4 : PySem.W.keepIn K (.ref f4) = true)
    (a5 : PySem.W.nsIn K mainGlobals "see_below" = some (some (.ref f5)))
    (l5 : K.lookup f5 = some ⟨oc5, od5, .func (PySem.W.fnOf "see_below" "see_below" (defArgs s_see_below) (defBody s_see_below) (defScope s_see_below) .none kV5 dc5 pm5 an5 cd5 ct5), sl5⟩)
    (c5 : PySem.W.codeIn K cd5 "see_below" = true)
    (k5 : PySem.W.keepIn K (.ref f5) = true)
    (a6 : PySem.W.nsIn K mainGlobals "see_share" = some (some (.ref f6)))
    (l6 : K.lookup f6 = some ⟨oc6, od6, .func (PySem.W.fnOf "see_share" "see_share" (defArgs s_see_share) (defBody s_see_share) (defScope s_see_share) .none kV6 dc6 pm6 an6 cd6 ct6), sl6⟩)
    (c6 : PySem.W.codeIn K cd6 "see_share" = true)
    (k6 : PySem.W.keepIn K (.ref f6) = true)
    (a7 : PySem.W.nsIn K mainGlobals "up" = some (some (.ref f7)))
    (l7 : K.lookup f7 = some ⟨oc7, od7, .func (PySem.W.fnOf "up" "up" (defArgs s_up) (defBody s_up) (defScope s_up) .none kV7 dc7 pm7 an7 cd7 ct7), sl7⟩)
    (c7 : PySem.W.codeIn K cd7 "up" = true)
    (k7 : PySem.W.keepIn K (.ref f7) = true)
    (a8 : PySem.W.nsIn K mainGlobals "greatest_first" = some (some (.ref f8)))
    (l8 : K.lookup f8 = some ⟨oc8, od8, .func (PySem.W.fnOf "greatest_first" "greatest_first" (defArgs s_greatest_first) (defBody s_greatest_first) (defScope s_greatest_first) .none kV8 dc8 pm8 an8 cd8 ct8), sl8⟩)
    (c8 : PySem.W.codeIn K cd8 "greatest_first" = true)
    (k8 : PySem.W.keepIn K (.ref f8) = true)
    (a9 : PySem.W.nsIn K mainGlobals "_law_cell_at" = some (some (.ref f9)))
    (l9 : K.lookup f9 = some ⟨oc9, od9, .func (PySem.W.fnOf "_law_cell_at" "_law_cell_at" (defArgs s_law_cell_at) (defBody s_law_cell_at) (defScope s_law_cell_at) .none kV9 dc9 pm9 an9 cd9 ct9), sl9⟩)
    (c9 : PySem.W.codeIn K cd9 "_law_cell_at" = true)
    (k9 : PySem.W.keepIn K (.ref f9) = true)
    (a10 : PySem.W.nsIn K mainGlobals "_law_whole" = some (some (.ref f10)))
    (l10 : K.lookup f10 = some ⟨oc10, od10, .func (PySem.W.fnOf "_law_whole" "_law_whole" (defArgs s_law_whole) (defBody s_law_whole) (defScope s_law_whole) .none kV10 dc10 pm10 an10 cd10 ct10), sl10⟩)
    (c10 : PySem.W.codeIn K cd10 "_law_whole" = true)
    (k10 : PySem.W.keepIn K (.ref f10) = true)
    (a11 : PySem.W.nsIn K mainGlobals "_law_common" = some (some (.ref f11)))
    (l11 : K.lookup f11 = some ⟨oc11, od11, .func (PySem.W.fnOf "_law_common" "_law_common" (defArgs s_law_common) (defBody s_law_common) (defScope s_law_common) .none kV11 dc11 pm11 an11 cd11 ct11), sl11⟩)
    (c11 : PySem.W.codeIn K cd11 "_law_common" = true)
    (k11 : PySem.W.keepIn K (.ref f11) = true)
    (a12 : PySem.W.nsIn K mainGlobals "_law_lowest" = some (some (.ref f12)))
    (l12 : K.lookup f12 = some ⟨oc12, od12, .func (PySem.W.fnOf "_law_lowest" "_law_lowest" (defArgs s_law_lowest) (defBody s_law_lowest) (defScope s_law_lowest) .none kV12 dc12 pm12 an12 cd12 ct12), sl12⟩)
    (c12 : PySem.W.codeIn K cd12 "_law_lowest" = true)
    (k12 : PySem.W.keepIn K (.ref f12) = true)
    (a13 : PySem.W.nsIn K mainGlobals "_law_sum" = some (some (.ref f13)))
    (l13 : K.lookup f13 = some ⟨oc13, od13, .func (PySem.W.fnOf "_law_sum" "_law_sum" (defArgs s_law_sum) (defBody s_law_sum) (defScope s_law_sum) .none kV13 dc13 pm13 an13 cd13 ct13), sl13⟩)
    (c13 : PySem.W.codeIn K cd13 "_law_sum" = true)
    (k13 : PySem.W.keepIn K (.ref f13) = true)
    (a14 : PySem.W.nsIn K mainGlobals "_law_list" = some (some (.ref f14)))
    (l14 : K.lookup f14 = some ⟨oc14, od14, .func (PySem.W.fnOf "_law_list" "_law_list" (defArgs s_law_list) (defBody s_law_list) (defScope s_law_list) .none kV14 dc14 pm14 an14 cd14 ct14), sl14⟩)
    (c14 : PySem.W.codeIn K cd14 "_law_list" = true)
    (k14 : PySem.W.keepIn K (.ref f14) = true)
    (a15 : PySem.W.nsIn K mainGlobals "_law_drawn" = some (some (.ref f15)))
    (l15 : K.lookup f15 = some ⟨oc15, od15, .func (PySem.W.fnOf "_law_drawn" "_law_drawn" (defArgs s_law_drawn) (defBody s_law_drawn) (defScope s_law_drawn) .none kV15 dc15 pm15 an15 cd15 ct15), sl15⟩)
    (c15 : PySem.W.codeIn K cd15 "_law_drawn" = true)
    (k15 : PySem.W.keepIn K (.ref f15) = true)
    (a16 : PySem.W.nsIn K mainGlobals "_law_kind" = some (some (.ref f16)))
    (l16 : K.lookup f16 = some ⟨oc16, od16, .func (PySem.W.fnOf "_law_kind" "_law_kind" (defArgs s_law_kind) (defBody s_law_kind) (defScope s_law_kind) .none kV16 dc16 pm16 an16 cd16 ct16), sl16⟩)
    (c16 : PySem.W.codeIn K cd16 "_law_kind" = true)
    (k16 : PySem.W.keepIn K (.ref f16) = true)
    (a17 : PySem.W.nsIn K mainGlobals "_law_walk" = some (some (.ref f17)))
    (l17 : K.lookup f17 = some ⟨oc17, od17, .func (PySem.W.fnOf "_law_walk" "_law_walk" (defArgs s_law_walk) (defBody s_law_walk) (defScope s_law_walk) .none kV17 dc17 pm17 an17 cd17 ct17), sl17⟩)
    (c17 : PySem.W.codeIn K cd17 "_law_walk" = true)
    (k17 : PySem.W.keepIn K (.ref f17) = true)
    (a18 : PySem.W.nsIn K mainGlobals "_law_tried" = some (some (.ref f18)))
    (l18 : K.lookup f18 = some ⟨oc18, od18, .func (PySem.W.fnOf "_law_tried" "_law_tried" (defArgs s_law_tried) (defBody s_law_tried) (defScope s_law_tried) .none kV18 dc18 pm18 an18 cd18 ct18), sl18⟩)
    (c18 : PySem.W.codeIn K cd18 "_law_tried" = true)
    (k18 : PySem.W.keepIn K (.ref f18) = true)
    (a19 : PySem.W.nsIn K mainGlobals "law" = some (some (.ref f19)))
    (l19 : K.lookup f19 = some ⟨oc19, od19, .func (PySem.W.fnOf "law" "law" (defArgs s_law) (defBody s_law) (defScope s_law) .none kV19 dc19 pm19 an19 cd19 ct19), sl19⟩)
    (c19 : PySem.W.codeIn K cd19 "law" = true)
    (k19 : PySem.W.keepIn K (.ref f19) = true)
    (z0 : PySem.W.nsIn K mainGlobals "len" = some none)
    (z1 : PySem.W.nsIn K mainGlobals "range" = some none)
    (z2 : PySem.W.nsIn K mainGlobals "min" = some none)
    (z3 : PySem.W.nsIn K mainGlobals "max" = some none)
    (z4 : PySem.W.nsIn K mainGlobals "sum" = some none)
    (z5 : PySem.W.nsIn K mainGlobals "sorted" = some none)
    (z6 : PySem.W.nsIn K mainGlobals "set" = some none)
    (z7 : PySem.W.nsIn K mainGlobals "dict" = some none)
    (z8 : PySem.W.nsIn K mainGlobals "list" = some none)
    (z9 : PySem.W.nsIn K mainGlobals "str" = some none)
    (z10 : PySem.W.nsIn K mainGlobals "int" = some none)
    (z11 : PySem.W.nsIn K mainGlobals "isinstance" = some none)
    (z12 : PySem.W.nsIn K mainGlobals "bool" = some none)
    (z13 : PySem.W.nsIn K mainGlobals "tuple" = some none)
    (z14 : PySem.W.nsIn K mainGlobals "ValueError" = some none)
    (q_MOST : PySem.W.nsIn K mainGlobals "MOST" = some (some (.int 400 tk_MOST)))
    (nShareError : PySem.W.nsIn K mainGlobals "ShareError" = some (some (.ref CShareError)))
    (e0ShareError : PySem.W.excIn K CShareError veT "ValueError.__new__" = true)
    (e1ShareError : PySem.W.keepIn K (.ref CShareError) = true)
    (e2ShareError : PySem.W.subIn K (.ref CShareError) (.type "BaseException") = some true)
    (e3ShareError : PySem.W.typeIn K (.ref CShareError) = some (.type "type"))
    (nNoFraction : PySem.W.nsIn K mainGlobals "NoFraction" = some (some (.ref CNoFraction)))
    (e0NoFraction : PySem.W.excIn K CNoFraction veT "ValueError.__new__" = true)
    (e1NoFraction : PySem.W.keepIn K (.ref CNoFraction) = true)
    (e2NoFraction : PySem.W.subIn K (.ref CNoFraction) (.type "BaseException") = some true)
    (e3NoFraction : PySem.W.typeIn K (.ref CNoFraction) = some (.type "type"))
    (nNotBelow : PySem.W.nsIn K mainGlobals "NotBelow" = some (some (.ref CNotBelow)))
    (e0NotBelow : PySem.W.excIn K CNotBelow veT "ValueError.__new__" = true)
    (e1NotBelow : PySem.W.keepIn K (.ref CNotBelow) = true)
    (e2NotBelow : PySem.W.subIn K (.ref CNotBelow) (.type "BaseException") = some true)
    (e3NotBelow : PySem.W.typeIn K (.ref CNotBelow) = some (.type "type"))
    (nTooGreat : PySem.W.nsIn K mainGlobals "TooGreat" = some (some (.ref CTooGreat)))
    (e0TooGreat : PySem.W.excIn K CTooGreat veT "ValueError.__new__" = true)
    (e1TooGreat : PySem.W.keepIn K (.ref CTooGreat) = true)
    (e2TooGreat : PySem.W.subIn K (.ref CTooGreat) (.type "BaseException") = some true)
    (e3TooGreat : PySem.W.typeIn K (.ref CTooGreat) = some (.type "type"))
    (nBadText : PySem.W.nsIn K mainGlobals "BadText" = some (some (.ref CBadText)))
    (e0BadText : PySem.W.excIn K CBadText veT "ValueError.__new__" = true)
    (e1BadText : PySem.W.keepIn K (.ref CBadText) = true)
    (e2BadText : PySem.W.subIn K (.ref CBadText) (.type "BaseException") = some true)
    (e3BadText : PySem.W.typeIn K (.ref CBadText) = some (.type "type"))
    (nNotRising : PySem.W.nsIn K mainGlobals "NotRising" = some (some (.ref CNotRising)))
    (e0NotRising : PySem.W.excIn K CNotRising veT "ValueError.__new__" = true)
    (e1NotRising : PySem.W.keepIn K (.ref CNotRising) = true)
    (e2NotRising : PySem.W.subIn K (.ref CNotRising) (.type "BaseException") = some true)
    (e3NotRising : PySem.W.typeIn K (.ref CNotRising) = some (.type "type"))
    (zdig : PySem.W.nsIn K cStatics "sys.int_max_str_digits" = some none)
    (hdShareError : PySem.W.hasDictIn K CShareError = true)
    (hdNoFraction : PySem.W.hasDictIn K CNoFraction = true)
    (hdNotBelow : PySem.W.hasDictIn K CNotBelow = true)
    (hdTooGreat : PySem.W.hasDictIn K CTooGreat = true)
    (hdBadText : PySem.W.hasDictIn K CBadText = true)
    (hdNotRising : PySem.W.hasDictIn K CNotRising = true)
    (x0NoFraction : PySem.W.findIn K (.ref CNoFraction) "__getattribute__" = some (some (.builtin "BaseException.__getattribute__")))
    (x1NoFraction : PySem.W.findIn K (.ref CNoFraction) "__getattr__" = some none)
    (x2NoFraction : PySem.W.subIn K (.ref CNoFraction) (.type "BaseException") = some true)
    (x4NoFraction : PySem.W.findIn K (.ref CNoFraction) "__class__" = some (some (.builtin "object.__class__")))
    (x5NoFraction : PySem.W.specialIn K (.builtin "object.__class__") "__get__" = some (some (.builtin "getset_descriptor.__get__")))
    (x6NoFraction : PySem.W.takesIn K (.builtin "object.__class__") = some true)
    (x7NoFraction : PySem.W.mroIn K CNoFraction (.type "object") = some true)
    (sNoFraction : PySem.W.subIn K (.ref CNoFraction) (.ref CShareError) = some true)
    (y0NoFraction : PySem.W.subIn K (.ref CNoFraction) (.ref CNoFraction) = some true)
    (y1NoFraction : PySem.W.subIn K (.ref CNoFraction) (.ref CNotBelow) = some false)
    (y2NoFraction : PySem.W.subIn K (.ref CNoFraction) (.ref CTooGreat) = some false)
    (y3NoFraction : PySem.W.subIn K (.ref CNoFraction) (.ref CBadText) = some false)
    (y4NoFraction : PySem.W.subIn K (.ref CNoFraction) (.ref CNotRising) = some false)
    (y5NoFraction : PySem.W.subIn K (.ref CNoFraction) (.type "ValueError") = some true)
    (x0NotBelow : PySem.W.findIn K (.ref CNotBelow) "__getattribute__" = some (some (.builtin "BaseException.__getattribute__")))
    (x1NotBelow : PySem.W.findIn K (.ref CNotBelow) "__getattr__" = some none)
    (x2NotBelow : PySem.W.subIn K (.ref CNotBelow) (.type "BaseException") = some true)
    (x4NotBelow : PySem.W.findIn K (.ref CNotBelow) "__class__" = some (some (.builtin "object.__class__")))
    (x5NotBelow : PySem.W.specialIn K (.builtin "object.__class__") "__get__" = some (some (.builtin "getset_descriptor.__get__")))
    (x6NotBelow : PySem.W.takesIn K (.builtin "object.__class__") = some true)
    (x7NotBelow : PySem.W.mroIn K CNotBelow (.type "object") = some true)
    (sNotBelow : PySem.W.subIn K (.ref CNotBelow) (.ref CShareError) = some true)
    (y0NotBelow : PySem.W.subIn K (.ref CNotBelow) (.ref CNoFraction) = some false)
    (y1NotBelow : PySem.W.subIn K (.ref CNotBelow) (.ref CNotBelow) = some true)
    (y2NotBelow : PySem.W.subIn K (.ref CNotBelow) (.ref CTooGreat) = some false)
    (y3NotBelow : PySem.W.subIn K (.ref CNotBelow) (.ref CBadText) = some false)
    (y4NotBelow : PySem.W.subIn K (.ref CNotBelow) (.ref CNotRising) = some false)
    (y5NotBelow : PySem.W.subIn K (.ref CNotBelow) (.type "ValueError") = some true)
    (x0TooGreat : PySem.W.findIn K (.ref CTooGreat) "__getattribute__" = some (some (.builtin "BaseException.__getattribute__")))
    (x1TooGreat : PySem.W.findIn K (.ref CTooGreat) "__getattr__" = some none)
    (x2TooGreat : PySem.W.subIn K (.ref CTooGreat) (.type "BaseException") = some true)
    (x4TooGreat : PySem.W.findIn K (.ref CTooGreat) "__class__" = some (some (.builtin "object.__class__")))
    (x5TooGreat : PySem.W.specialIn K (.builtin "object.__class__") "__get__" = some (some (.builtin "getset_descriptor.__get__")))
    (x6TooGreat : PySem.W.takesIn K (.builtin "object.__class__") = some true)
    (x7TooGreat : PySem.W.mroIn K CTooGreat (.type "object") = some true)
    (sTooGreat : PySem.W.subIn K (.ref CTooGreat) (.ref CShareError) = some true)
    (y0TooGreat : PySem.W.subIn K (.ref CTooGreat) (.ref CNoFraction) = some false)
    (y1TooGreat : PySem.W.subIn K (.ref CTooGreat) (.ref CNotBelow) = some false)
    (y2TooGreat : PySem.W.subIn K (.ref CTooGreat) (.ref CTooGreat) = some true)
    (y3TooGreat : PySem.W.subIn K (.ref CTooGreat) (.ref CBadText) = some false)
    (y4TooGreat : PySem.W.subIn K (.ref CTooGreat) (.ref CNotRising) = some false)
    (y5TooGreat : PySem.W.subIn K (.ref CTooGreat) (.type "ValueError") = some true)
    : ∃ fd : FuncData, (∀ (s : Shared) (v : Value), BindsTo s fd ⟨[v], []⟩ [("script", v)]) ∧ ∀ base : Heap, K.In base → base.Ns mainGlobals mg → FnOk l.prog w K mg base CX0 6 fa fd ["script"] (sp_law K) := by
  have ef := hfa.symm.trans (PySem.W.mg_of X G a19)
  cases ef
  have B : Bi mg := ⟨PySem.W.mg_none_of X G z0, PySem.W.mg_none_of X G z1, PySem.W.mg_none_of X G z2, PySem.W.mg_none_of X G z3, PySem.W.mg_none_of X G z4, PySem.W.mg_none_of X G z5, PySem.W.mg_none_of X G z6, PySem.W.mg_none_of X G z7, PySem.W.mg_none_of X G z8, PySem.W.mg_none_of X G z9, PySem.W.mg_none_of X G z10, PySem.W.mg_none_of X G z11, PySem.W.mg_none_of X G z12, PySem.W.mg_none_of X G z13, PySem.W.mg_none_of X G z14⟩
  have Er : ErrOk K mg ⟨CShareError, CNoFraction, CNotBelow, CTooGreat, CBadText, CNotRising⟩ := ⟨⟨PySem.W.mg_of X G nShareError, e0ShareError, e1ShareError, e2ShareError, e3ShareError⟩, ⟨PySem.W.mg_of X G nNoFraction, e0NoFraction, e1NoFraction, e2NoFraction, e3NoFraction⟩, ⟨PySem.W.mg_of X G nNotBelow, e0NotBelow, e1NotBelow, e2NotBelow, e3NotBelow⟩, ⟨PySem.W.mg_of X G nTooGreat, e0TooGreat, e1TooGreat, e2TooGreat, e3TooGreat⟩, ⟨PySem.W.mg_of X G nBadText, e0BadText, e1BadText, e2BadText, e3BadText⟩, ⟨PySem.W.mg_of X G nNotRising, e0NotRising, e1NotRising, e2NotRising, e3NotRising⟩, zdig, PySem.W.exm_ref e2ShareError hdShareError e3ShareError sNoFraction, ⟨⟨x0NoFraction, x1NoFraction, x2NoFraction, hdNoFraction, x4NoFraction, x5NoFraction, x6NoFraction, x7NoFraction⟩, kit_refs hdNoFraction e3NoFraction y0NoFraction y0NoFraction, kit_refs hdNotBelow e3NotBelow y1NoFraction y0NoFraction, kit_refs hdTooGreat e3TooGreat y2NoFraction y0NoFraction, kit_refs hdBadText e3BadText y3NoFraction y0NoFraction, kit_refs hdNotRising e3NotRising y4NoFraction y0NoFraction, kit_ve y5NoFraction⟩, PySem.W.exm_ref e2ShareError hdShareError e3ShareError sNotBelow, ⟨⟨x0NotBelow, x1NotBelow, x2NotBelow, hdNotBelow, x4NotBelow, x5NotBelow, x6NotBelow, x7NotBelow⟩, kit_refs hdNoFraction e3NoFraction y0NotBelow y1NotBelow, kit_refs hdNotBelow e3NotBelow y1NotBelow y1NotBelow, kit_refs hdTooGreat e3TooGreat y2NotBelow y1NotBelow, kit_refs hdBadText e3BadText y3NotBelow y1NotBelow, kit_refs hdNotRising e3NotRising y4NotBelow y1NotBelow, kit_ve y5NotBelow⟩, PySem.W.exm_ref e2ShareError hdShareError e3ShareError sTooGreat, ⟨⟨x0TooGreat, x1TooGreat, x2TooGreat, hdTooGreat, x4TooGreat, x5TooGreat, x6TooGreat, x7TooGreat⟩, kit_refs hdNoFraction e3NoFraction y0TooGreat y2TooGreat, kit_refs hdNotBelow e3NotBelow y1TooGreat y2TooGreat, kit_refs hdTooGreat e3TooGreat y2TooGreat y2TooGreat, kit_refs hdBadText e3BadText y3TooGreat y2TooGreat, kit_refs hdNotRising e3NotRising y4TooGreat y2TooGreat, kit_ve y5TooGreat⟩⟩
  have S_see : Stands K mg "see" s_see := ⟨_, _, fun_mk (st := s_see) l0 c0 k0, PySem.W.mg_of X G a0⟩
  have S_common : Stands K mg "common" s_common := ⟨_, _, fun_mk (st := s_common) l1 c1 k1, PySem.W.mg_of X G a1⟩
  have S_lowest : Stands K mg "lowest" s_lowest := ⟨_, _, fun_mk (st := s_lowest) l2 c2 k2, PySem.W.mg_of X G a2⟩
  have S_less : Stands K mg "less" s_less := ⟨_, _, fun_mk (st := s_less) l3 c3 k3, PySem.W.mg_of X G a3⟩
  have S_taken : Stands K mg "taken" s_taken := ⟨_, _, fun_mk (st := s_taken) l4 c4 k4, PySem.W.mg_of X G a4⟩
  have S_see_below : Stands K mg "see_below" s_see_below := ⟨_, _, fun_mk (st := s_see_below) l5 c5 k5, PySem.W.mg_of X G a5⟩
  have S_see_share : Stands K mg "see_share" s_see_share := ⟨_, _, fun_mk (st := s_see_share) l6 c6 k6, PySem.W.mg_of X G a6⟩
  have S_up : Stands K mg "up" s_up := ⟨_, _, fun_mk (st := s_up) l7 c7 k7, PySem.W.mg_of X G a7⟩
  have S_greatest_first : Stands K mg "greatest_first" s_greatest_first := ⟨_, _, fun_mk (st := s_greatest_first) l8 c8 k8, PySem.W.mg_of X G a8⟩
  have S_law_cell_at : Stands K mg "_law_cell_at" s_law_cell_at := ⟨_, _, fun_mk (st := s_law_cell_at) l9 c9 k9, PySem.W.mg_of X G a9⟩
  have S_law_whole : Stands K mg "_law_whole" s_law_whole := ⟨_, _, fun_mk (st := s_law_whole) l10 c10 k10, PySem.W.mg_of X G a10⟩
  have S_law_common : Stands K mg "_law_common" s_law_common := ⟨_, _, fun_mk (st := s_law_common) l11 c11 k11, PySem.W.mg_of X G a11⟩
  have S_law_lowest : Stands K mg "_law_lowest" s_law_lowest := ⟨_, _, fun_mk (st := s_law_lowest) l12 c12 k12, PySem.W.mg_of X G a12⟩
  have S_law_sum : Stands K mg "_law_sum" s_law_sum := ⟨_, _, fun_mk (st := s_law_sum) l13 c13 k13, PySem.W.mg_of X G a13⟩
  have S_law_list : Stands K mg "_law_list" s_law_list := ⟨_, _, fun_mk (st := s_law_list) l14 c14 k14, PySem.W.mg_of X G a14⟩
  have S_law_drawn : Stands K mg "_law_drawn" s_law_drawn := ⟨_, _, fun_mk (st := s_law_drawn) l15 c15 k15, PySem.W.mg_of X G a15⟩
  have S_law_kind : Stands K mg "_law_kind" s_law_kind := ⟨_, _, fun_mk (st := s_law_kind) l16 c16 k16, PySem.W.mg_of X G a16⟩
  have S_law_walk : Stands K mg "_law_walk" s_law_walk := ⟨_, _, fun_mk (st := s_law_walk) l17 c17 k17, PySem.W.mg_of X G a17⟩
  have S_law_tried : Stands K mg "_law_tried" s_law_tried := ⟨_, _, fun_mk (st := s_law_tried) l18 c18 k18, PySem.W.mg_of X G a18⟩
  refine ⟨PySem.W.fnOf "law" "law" (defArgs s_law) (defBody s_law) (defScope s_law) .none kV19 dc19 pm19 an19 cd19 ct19, fun s v => .of_eq rfl, fun base _ _ => ?_⟩
  have O_see := ok_see (P := l.prog) (w := w) (base := base) S_see B Er 
  have O_common := ok_common (P := l.prog) (w := w) (base := base) S_common B Er 
  have O_lowest := ok_lowest (P := l.prog) (w := w) (base := base) S_lowest B Er O_see O_common
  have O_less := ok_less (P := l.prog) (w := w) (base := base) S_less B Er O_see
  have O_taken := ok_taken (P := l.prog) (w := w) (base := base) S_taken B Er O_less O_lowest
  have O_see_below := ok_see_below (P := l.prog) (w := w) (base := base) S_see_below B Er O_see
  have O_see_share := ok_see_share (P := l.prog) (w := w) (base := base) S_see_share B Er ⟨_, PySem.W.mg_of X G q_MOST⟩
  have O_up := ok_up (P := l.prog) (w := w) (base := base) S_up B Er 
  have O_greatest_first := ok_greatest_first (P := l.prog) (w := w) (base := base) S_greatest_first B Er O_see_below O_lowest O_up O_see_share O_taken
  have O_law_cell_at := ok_law_cell_at (P := l.prog) (w := w) (base := base) S_law_cell_at B Er 
  have O_law_whole := ok_law_whole (P := l.prog) (w := w) (base := base) S_law_whole B Er 
  have O_law_common := ok_law_common (P := l.prog) (w := w) (base := base) S_law_common B Er 
  have O_law_lowest := ok_law_lowest (P := l.prog) (w := w) (base := base) S_law_lowest B Er O_law_common
  have O_law_sum := ok_law_sum (P := l.prog) (w := w) (base := base) S_law_sum B Er O_law_lowest
  have O_law_list := ok_law_list (P := l.prog) (w := w) (base := base) S_law_list B Er O_law_whole
  have O_law_drawn := ok_law_drawn (P := l.prog) (w := w) (base := base) S_law_drawn B Er O_law_cell_at
  have O_law_kind := ok_law_kind (P := l.prog) (w := w) (base := base) S_law_kind B Er 
  have O_law_walk := ok_law_walk (P := l.prog) (w := w) (base := base) S_law_walk B Er O_law_lowest
  have O_law_tried := ok_law_tried (P := l.prog) (w := w) (base := base) S_law_tried B Er O_greatest_first O_law_kind
  exact ok_law (P := l.prog) (w := w) (base := base) (fun_mk (st := s_law) l19 c19 k19) B Er O_law_drawn O_law_lowest O_law_walk O_law_tried O_law_list O_greatest_first O_law_sum
end U
open PySem PySem.W PyProof.Rows
set_option maxHeartbeats 0 in
theorem PySem.Challenge.cw_unitshares_k04_whole_greatest_first_holds : PySem.Challenge.rw_unitshares_k04_whole_greatest_first.Holds := by
  w_on; o_law; k_head; (case hw => w_witness2)
  k_fill
  refine L2.walk_of (l := PySem.Challenge.rw_unitshares_k04_whole_greatest_first) (n := 63) (k := 6) (x := "script") (CX := fun _ => L2.CX0) (sp := fun w => U.sp_law _) rfl (by decide) rfl ⟨rfl, by decide, by decide⟩ (fun w h Y => PySem.W.kIn_of Y) ?F (fun _ _ a ns hl _ hS => ⟨a, ns, rfl, hS, hl, fun _ => rfl⟩) (fun _ _ _ _ _ h => h)
  case F =>
    intro w mg fa h KX G hmg
    refine' U.all_mk KX G hmg ?a0 ?l0 ?c0 ?k0 ?a1 ?l1 ?c1 ?k1 ?a2 ?l2 ?c2 ?k2 ?a3 ?l3 ?c3 ?k3 ?a4 ?l4 ?c4 ?k4 ?a5 ?l5 ?c5 ?k5 ?a6 ?l6 ?c6 ?k6 ?a7 ?l7 ?c7 ?k7 ?a8 ?l8 ?c8 ?k8 ?a9 ?l9 ?c9 ?k9 ?a10 ?l10 ?c10 ?k10 ?a11 ?l11 ?c11 ?k11 ?a12 ?l12 ?c12 ?k12 ?a13 ?l13 ?c13 ?k13 ?a14 ?l14 ?c14 ?k14 ?a15 ?l15 ?c15 ?k15 ?a16 ?l16 ?c16 ?k16 ?a17 ?l17 ?c17 ?k17 ?a18 ?l18 ?c18 ?k18 ?a19 ?l19 ?c19 ?k19 ?z0 ?z1 ?z2 ?z3 ?z4 ?z5 ?z6 ?z7 ?z8 ?z9 ?z10 ?z11 ?z12 ?z13 ?z14 ?q_MOST ?nShareError ?e0ShareError ?e1ShareError ?e2ShareError ?e3ShareError ?nNoFraction ?e0NoFraction ?e1NoFraction ?e2NoFraction ?e3NoFraction ?nNotBelow ?e0NotBelow ?e1NotBelow ?e2NotBelow ?e3NotBelow ?nTooGreat ?e0TooGreat ?e1TooGreat ?e2TooGreat ?e3TooGreat ?nBadText ?e0BadText ?e1BadText ?e2BadText ?e3BadText ?nNotRising ?e0NotRising ?e1NotRising ?e2NotRising ?e3NotRising ?zdig ?hdShareError ?hdNoFraction ?hdNotBelow ?hdTooGreat ?hdBadText ?hdNotRising ?x0NoFraction ?x1NoFraction ?x2NoFraction ?x4NoFraction ?x5NoFraction ?x6NoFraction ?x7NoFraction ?sNoFraction ?y0NoFraction ?y1NoFraction ?y2NoFraction ?y3NoFraction ?y4NoFraction ?y5NoFraction ?x0NotBelow ?x1NotBelow ?x2NotBelow ?x4NotBelow ?x5NotBelow ?x6NotBelow ?x7NotBelow ?sNotBelow ?y0NotBelow ?y1NotBelow ?y2NotBelow ?y3NotBelow ?y4NotBelow ?y5NotBelow ?x0TooGreat ?x1TooGreat ?x2TooGreat ?x4TooGreat ?x5TooGreat ?x6TooGreat ?x7TooGreat ?sTooGreat ?y0TooGreat ?y1TooGreat ?y2TooGreat ?y3TooGreat ?y4TooGreat ?y5TooGreat
    (case a0 => k_is)
    (case l0 => k_is)
    (case c0 => k_is)
    (case k0 => k_is)
    (case a1 => k_is)
    (case l1 => k_is)
    (case c1 => k_is)
    (case k1 => k_is)
    (case a2 => k_is)
    (case l2 => k_is)
    (case c2 => k_is)
    (case k2 => k_is)
    (case a3 => k_is)
    (case l3 => k_is)
    (case c3 => k_is)
    (case k3 => k_is)
    (case a4 => k_is)
    (case l4 => k_is)
    (case c4 => k_is)
    (case k4 => k_is)
    (case a5 => k_is)
    (case l5 => k_is)
    (case c5 => k_is)
    (case k5 => k_is)
    (case a6 => k_is)
    (case l6 => k_is)
    (case c6 => k_is)
    (case k6 => k_is)
    (case a7 => k_is)
    (case l7 => k_is)
    (case c7 => k_is)
    (case k7 => k_is)
    (case a8 => k_is)
    (case l8 => k_is)
    (case c8 => k_is)
    (case k8 => k_is)
    (case a9 => k_is)
    (case l9 => k_is)
    (case c9 => k_is)
    (case k9 => k_is)
    (case a10 => k_is)
    (case l10 => k_is)
    (case c10 => k_is)
    (case k10 => k_is)
    (case a11 => k_is)
    (case l11 => k_is)
    (case c11 => k_is)
    (case k11 => k_is)
    (case a12 => k_is)
    (case l12 => k_is)
    (case c12 => k_is)
    (case k12 => k_is)
    (case a13 => k_is)
    (case l13 => k_is)
    (case c13 => k_is)
    (case k13 => k_is)
    (case a14 => k_is)
    (case l14 => k_is)
    (case c14 => k_is)
    (case k14 => k_is)
    (case a15 => k_is)
    (case l15 => k_is)
    (case c15 => k_is)
    (case k15 => k_is)
    (case a16 => k_is)
    (case l16 => k_is)
    (case c16 => k_is)
    (case k16 => k_is)
    (case a17 => k_is)
    (case l17 => k_is)
    (case c17 => k_is)
    (case k17 => k_is)
    (case a18 => k_is)
    (case l18 => k_is)
    (case c18 => k_is)
    (case k18 => k_is)
    (case a19 => k_is)
    (case l19 => k_is)
    (case c19 => k_is)
    (case k19 => k_is)
    (case z0 => k_is)
    (case z1 => k_is)
    (case z2 => k_is)
    (case z3 => k_is)
    (case z4 => k_is)
    (case z5 => k_is)
    (case z6 => k_is)
    (case z7 => k_is)
    (case z8 => k_is)
    (case z9 => k_is)
    (case z10 => k_is)
    (case z11 => k_is)
    (case z12 => k_is)
    (case z13 => k_is)
    (case z14 => k_is)
    (case q_MOST => k_is)
    (case nShareError => k_is)
    (case e0ShareError => k_exc)
    (case e1ShareError => k_is)
    (case e2ShareError => k_is)
    (case e3ShareError => k_is)
    (case nNoFraction => k_is)
    (case e0NoFraction => k_exc)
    (case e1NoFraction => k_is)
    (case e2NoFraction => k_is)
    (case e3NoFraction => k_is)
    (case nNotBelow => k_is)
    (case e0NotBelow => k_exc)
    (case e1NotBelow => k_is)
    (case e2NotBelow => k_is)
    (case e3NotBelow => k_is)
    (case nTooGreat => k_is)
    (case e0TooGreat => k_exc)
    (case e1TooGreat => k_is)
    (case e2TooGreat => k_is)
    (case e3TooGreat => k_is)
    (case nBadText => k_is)
    (case e0BadText => k_exc)
    (case e1BadText => k_is)
    (case e2BadText => k_is)
    (case e3BadText => k_is)
    (case nNotRising => k_is)
    (case e0NotRising => k_exc)
    (case e1NotRising => k_is)
    (case e2NotRising => k_is)
    (case e3NotRising => k_is)
    (case zdig => k_is)
    (case hdShareError => k_is)
    (case hdNoFraction => k_is)
    (case hdNotBelow => k_is)
    (case hdTooGreat => k_is)
    (case hdBadText => k_is)
    (case hdNotRising => k_is)
    (case x0NoFraction => k_is)
    (case x1NoFraction => k_is)
    (case x2NoFraction => k_is)
    (case x4NoFraction => k_is)
    (case x5NoFraction => k_is)
    (case x6NoFraction => k_is)
    (case x7NoFraction => k_is)
    (case sNoFraction => k_is)
    (case y0NoFraction => k_is)
    (case y1NoFraction => k_is)
    (case y2NoFraction => k_is)
    (case y3NoFraction => k_is)
    (case y4NoFraction => k_is)
    (case y5NoFraction => k_is)
    (case x0NotBelow => k_is)
    (case x1NotBelow => k_is)
    (case x2NotBelow => k_is)
    (case x4NotBelow => k_is)
    (case x5NotBelow => k_is)
    (case x6NotBelow => k_is)
    (case x7NotBelow => k_is)
    (case sNotBelow => k_is)
    (case y0NotBelow => k_is)
    (case y1NotBelow => k_is)
    (case y2NotBelow => k_is)
    (case y3NotBelow => k_is)
    (case y4NotBelow => k_is)
    (case y5NotBelow => k_is)
    (case x0TooGreat => k_is)
    (case x1TooGreat => k_is)
    (case x2TooGreat => k_is)
    (case x4TooGreat => k_is)
    (case x5TooGreat => k_is)
    (case x6TooGreat => k_is)
    (case x7TooGreat => k_is)
    (case sTooGreat => k_is)
    (case y0TooGreat => k_is)
    (case y1TooGreat => k_is)
    (case y2TooGreat => k_is)
    (case y3TooGreat => k_is)
    (case y4TooGreat => k_is)
    (case y5TooGreat => k_is)
