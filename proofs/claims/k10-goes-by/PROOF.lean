import PyProof.Rows.All
import Wide.All
import OpenK.AllK
import Wide.FinOn
import HandS.ForMost
import HandS.ForExc
import HandS.More
import HandS.Wide
import HandS.WideBits
import HandS.IsInst
import HandS.SortInts
import HandS.SetFor
import HandS.Strs
import HandS.Zip

import PySem.Challenge.RW_unitshares_k10_goes_by
set_option Elab.async false
set_option linter.all false
set_option maxRecDepth 100000
set_option maxHeartbeats 4000000
namespace U
open PySem PySem.Spec PyProof.Rows L2
def topS (i : Nat) : Stmt := PySem.Challenge.pw_unitshares_k10_goes_by.main.body.getD i (.Pass ⟨0, 0, 0, 0⟩)
/-! ### how a def, a class, a built-in stand -/
/-- the module's name x holds the def st -/
def Stands (K : PySem.W.Frag) (mg : Str → Option Value) (x : Str) (st : Stmt) : Prop := ∃ f fd, Fun K x x st f fd ∧ mg x = some (.ref f)
/-- the def x keeps the promise sp -/
def Keeps (P : Program) (w : World) (K : PySem.W.Frag) (mg : Str → Option Value) (base : Heap) (k : Nat) (x : Str) (ps : List Str) (sp : Sp) : Prop :=
  ∃ f fd, FnOk P w K mg base (L2.CX P w) k f fd ps sp ∧ Binds K fd ps [] ∧ mg x = some (.ref f) ∧ PySem.W.keepIn K (.ref f) = true
/-- nothing leaves, so whatever leaves is as one likes -/
theorem toX {P : Program} {w : World} {K : PySem.W.Frag} {mg : Str → Option Value} {base : Heap} {k : Nat} {f : Addr} {fd : FuncData} {ps : List Str} {sp : Sp} (F : FnOk P w K mg base CX0 k f fd ps sp) : FnOk P w K mg base (L2.CX P w) k f fd ps sp :=
  ⟨F.len, fun A outer s H args us vs Q E hr e0 hb r h => codeAny_mono (F.run A outer s H args us vs Q E hr e0 hb r h) fun r s' q => by
    cases r with
    | error e => exact False.elim q
    | ok fl => cases fl <;> exact q⟩
structure Bi (mg : Str → Option Value) : Prop where
  len : mg "len" = none
  range : mg "range" = none
  min : mg "min" = none
  max : mg "max" = none
  sum : mg "sum" = none
  sorted : mg "sorted" = none
  set : mg "set" = none
  dict : mg "dict" = none
  list : mg "list" = none
  str : mg "str" = none
  int : mg "int" = none
  isinstance : mg "isinstance" = none
  bool : mg "bool" = none
  tuple : mg "tuple" = none
  ValueError : mg "ValueError" = none
abbrev veT : List Value := [.type "ValueError", .type "Exception", .type "BaseException", .type "object"]
/-! ### heaps -/
theorem same_new {H : Hp} {p : Addr} {o : HO} (h : H p = none) : Same H (upd H p o) := fun b x e => by
  rw [upd_ne (ne_of_none e h)]
  exact e
/-- an object that H does not know is written -/
theorem same_mut {H H' : Hp} {p : Addr} {o : HO} (s : Same H H') (h : H p = none) : Same H (upd H' p o) := fun b x e => by
  rw [upd_ne (ne_of_none e h)]
  exact s b x e
theorem same_tup {K : PySem.W.Frag} {H H' : Hp} {a : Addr} {xs : List V} (e : Same H H') (h : SqT K H a xs) : SqT K H' a xs := by
  rcases h with (h | ⟨o, h⟩) | h
  · exact .inl (.inl (e _ _ h))
  · exact .inl (.inr ⟨o, e _ _ h⟩)
  · exact .inr h
theorem ty_list {K : PySem.W.Frag} {H : Hp} {a : Addr} {xs : List V} (h : SqL K H a xs) : TyX K H (.ref a) (.type "list") := by
  rcases h with (h | ⟨o, h⟩) | ⟨o, _, _, h, c, _⟩
  · exact .base (.lst h)
  · exact .base (.frz h)
  · exact .kList h c
theorem ty_tup {K : PySem.W.Frag} {H : Hp} {a : Addr} {xs : List V} (h : SqT K H a xs) : TyX K H (.ref a) (.type "tuple") := by
  rcases h with (h | ⟨o, h⟩) | ⟨o, _, _, h, c, _⟩
  · exact .base (.tup h)
  · exact .fTuple h
  · exact .kTuple h c
theorem szl {n : Nat} (h : n ≤ 16000000) : n ≤ sizeLine := Nat.le_trans h (by decide)
theorem szl_lt {n : Nat} (h : n < 16000000) : n < sizeLine := Nat.lt_of_lt_of_le h (by decide)
theorem get_map {α β : Type} {f : α → β} {l : List α} {i : Nat} {x : α} (h : l[i]? = some x) : (l.map f)[i]? = some (f x) := by
  rw [List.getElem?_map, h] <;> rfl
theorem of_get_map {α β : Type} {f : α → β} {l : List α} {i : Nat} {y : β} (h : (l.map f)[i]? = some y) : ∃ x, l[i]? = some x ∧ y = f x := by
  rw [List.getElem?_map] at h
  cases e : l[i]? with
  | none => rw [e] at h; cases h
  | some x => rw [e] at h; exact ⟨x, rfl, (Option.some.inj h).symm⟩
theorem take_snoc {α : Type} {l : List α} {i : Nat} {x : α} (h : l[i]? = some x) : l.take (i + 1) = l.take i ++ [x] := by
  rw [List.take_add_one, h] <;> rfl
theorem lt_of_get {α : Type} {l : List α} {i : Nat} {x : α} (h : l[i]? = some x) : i < l.length := (List.getElem?_eq_some_iff.mp h).1
/-- 1, 2, .., n -/
def upto (n : Nat) : List Int := (List.range n).map fun (i : Nat) => 1 + (i : Int)
theorem upto_succ (n : Nat) : upto (n + 1) = upto n ++ [1 + (n : Int)] := by
  unfold upto
  rw [List.range_succ, List.map_append] <;> rfl
theorem upto_length (n : Nat) : (upto n).length = n := by
  unfold upto
  rw [List.length_map, List.length_range]
theorem mem_upto {n : Nat} {x : Int} : x ∈ upto n ↔ 1 ≤ x ∧ x ≤ n := by
  unfold upto
  rw [List.mem_map]
  constructor
  · rintro ⟨i, hi, rfl⟩
    have := List.mem_range.mp hi
    omega
  · rintro ⟨h1, h2⟩
    exact ⟨(x - 1).toNat, List.mem_range.mpr (by omega), by omega⟩
theorem cw_mul {i j : Int} {a b : Nat} (ha : i.natAbs < 2 ^ a) (hb : j.natAbs < 2 ^ b) (h0 : 0 < a := by decide) (h1 : 0 < b := by decide) (h : a + b ≤ 1000000 := by decide) : CMulW i j := wide_mul ha hb h0 h1 h
/-- // by a positive divisor, where it is told that C divides by itself -/
theorem op_fdivP {X : Cx} : OpR X (binaryOp .FloorDiv) (rI CDivP fun i j => .int (i / j)) := opI fun i j _ _ _ _ _ hc q => by
  have h1 : (0 : Int) < j := hc.1
  exact floordiv_int (by omega) (by rw [Int.fdiv_eq_ediv_of_nonneg i (by omega)]; exact q) (.inl hc.2)
theorem cdp_of {i j : Int} (h : CDivW i j) : CDivP i j := ⟨h.1, PyProof.noPylong_of_log2 h.2⟩
theorem cw_div {i j : Int} {b : Nat} (h : 0 < j) (hb : j.natAbs < 2 ^ b) (h0 : 0 < b := by decide) (h9 : b ≤ 9000 := by decide) : CDivP i j := cdp_of (wide_div h hb h0 h9)
theorem fil_yes {α : Type} {q : α → Prop} [DecidablePred q] {l : List α} {x : α} (h : q x) : (l ++ [x]).filter (fun k => decide (q k)) = l.filter (fun k => decide (q k)) ++ [x] := by
  rw [List.filter_append]
  congr 1
  simp [h]
theorem fil_no {α : Type} {q : α → Prop} [DecidablePred q] {l : List α} {x : α} (h : ¬ q x) : (l ++ [x]).filter (fun k => decide (q k)) = l.filter (fun k => decide (q k)) := by
  rw [List.filter_append]
  simp [h]
/-- what holds behind a statement, its ways joined -/
theorem cut {t R : TS} {D : Ends} {σ : L2.St} {H : Hp} (Pm : L2.St → Hp → Prop) (h1 : ∀ (R : TS) (D : Ends), (∀ σ' H', Pm σ' H' → R D σ' H') → tSeq t R D σ H) (h2 : ∀ σ' H', Pm σ' H' → R D σ' H') : tSeq t R D σ H := h1 R D h2
theorem snoc_ind {α : Type} (P : List α → Prop) (l : List α) (h0 : P []) (hs : ∀ l x, P l → P (l ++ [x])) : P l := by
  have : ∀ r : List α, P r.reverse := fun r => by
    induction r with
    | nil => exact h0
    | cons x r ih =>
      rw [List.reverse_cons]
      exact hs _ _ ih
  have := this l.reverse
  rwa [List.reverse_reverse] at this

/-! ### sizes, by bits -/
/-- x has at most n bits -/
def Sz (n : Nat) (x : Int) : Prop := x.natAbs < 2 ^ n
theorem Sz.mono {a b : Nat} {x : Int} (h : Sz a x) (l : a ≤ b := by decide) : Sz b x := Nat.lt_of_lt_of_le h (Nat.pow_le_pow_right (by decide) l)
theorem Sz.le {a : Nat} {x y : Int} (h : Sz a y) (h0 : 0 ≤ x) (l : x ≤ y) : Sz a x := Nat.lt_of_le_of_lt (by omega : x.natAbs ≤ y.natAbs) h
theorem Sz.mul {a b : Nat} {x y : Int} (h : Sz a x) (g : Sz b y) : Sz (a + b) (x * y) := by
  unfold Sz
  rw [Int.natAbs_mul, Nat.pow_add]
  exact Nat.mul_lt_mul'' h g
theorem Sz.add {a : Nat} {x y : Int} (h : Sz a x) (g : Sz a y) : Sz (a + 1) (x + y) := by
  have h : x.natAbs < 2 ^ a := h
  have g : y.natAbs < 2 ^ a := g
  show (x + y).natAbs < 2 ^ (a + 1)
  rw [Nat.pow_succ]
  omega
theorem Sz.sub {a : Nat} {x y : Int} (h : Sz a x) (g : Sz a y) : Sz (a + 1) (x - y) := by
  have h : x.natAbs < 2 ^ a := h
  have g : y.natAbs < 2 ^ a := g
  show (x - y).natAbs < 2 ^ (a + 1)
  rw [Nat.pow_succ]
  omega
theorem Sz.cm {a b : Nat} {i j : Int} (ha : Sz a i) (hb : Sz b j) (h0 : 0 < a := by decide) (h1 : 0 < b := by decide) (h : a + b ≤ 1000000 := by decide) : CMulW i j := wide_mul ha hb h0 h1 h
theorem Sz.cd {b : Nat} {i j : Int} (hb : Sz b j) (h : 0 < j) (h0 : 0 < b := by decide) (h9 : b ≤ 9000 := by decide) : CDivP i j := cw_div h hb h0 h9
theorem Sz.lit {a : Nat} {x : Int} (h : x.natAbs < 2 ^ a := by decide) : Sz a x := h
theorem Sz.one {a : Nat} (h : 0 < a := by decide) : Sz a 1 := Nat.one_lt_two_pow (by omega)
theorem Sz.zero {a : Nat} : Sz a 0 := Nat.pow_pos (by decide)
/-- a dividend not much greater than its divisor -/
theorem cdp_near {i j : Int} {k : Nat} (hj : 0 < j) (h : i.natAbs ≤ 2 ^ k * j.natAbs) (hk : k ≤ 3000 := by decide) : CDivP i j := by
  refine divp_ok hj ?_
  have b1 : j.natAbs < 2 ^ (j.natAbs.log2 + 1) := Nat.lt_log2_self
  have b2 : i.natAbs < 2 ^ (k + (j.natAbs.log2 + 1)) := by
    rw [Nat.pow_add]
    exact Nat.lt_of_le_of_lt h (Nat.mul_lt_mul_of_pos_left b1 (Nat.pow_pos (by decide)))
  have b3 := PyProof.Rows.intBits_le b2
  have b4 : Builtin.Int.intBits j = j.natAbs.log2 + 1 := by
    unfold Builtin.Int.intBits
    rw [if_neg (by simpa using (show j ≠ 0 by omega))]
  omega

--: math = sz
/-! ### lowest terms -/
def gc (a b : Int) : Int := ((Int.gcd a b : Nat) : Int)
def low (t b : Int) : Int × Int := (t / gc t b, b / gc t b)
theorem gc_nn (a b : Int) : 0 ≤ gc a b := Int.natCast_nonneg _
theorem gc_pos {t b : Int} (h : 1 ≤ b) : 0 < gc t b := by
  have : Int.gcd t b ≠ 0 := fun z => by
    have := (Int.gcd_eq_zero_iff.mp z).2
    omega
  unfold gc
  omega
theorem gc_dl (t b : Int) : gc t b ∣ t := Int.gcd_dvd_left ..
theorem gc_dr (t b : Int) : gc t b ∣ b := Int.gcd_dvd_right ..
theorem gc_le {t b : Int} (h : 1 ≤ b) : gc t b ≤ b := Int.le_of_dvd (by omega) (gc_dr t b)
theorem low_t (t b : Int) : (low t b).1 * gc t b = t := Int.ediv_mul_cancel (gc_dl t b)
theorem low_b (t b : Int) : (low t b).2 * gc t b = b := Int.ediv_mul_cancel (gc_dr t b)
theorem low_bpos {t b : Int} (h : 1 ≤ b) : 1 ≤ (low t b).2 := by
  have g := gc_pos (t := t) h
  have e := low_b t b
  by_cases z : 1 ≤ (low t b).2
  · exact z
  · have : (low t b).2 * gc t b ≤ 0 := Int.mul_nonpos_of_nonpos_of_nonneg (by omega) (by omega)
    omega
theorem low_tnn {t b : Int} (h : 1 ≤ b) (h0 : 0 ≤ t) : 0 ≤ (low t b).1 := Int.ediv_nonneg h0 (gc_nn t b)
theorem low_ble {t b : Int} (h : 1 ≤ b) : (low t b).2 ≤ b := Int.ediv_le_self _ (by omega)
theorem low_tle {t b : Int} (h0 : 0 ≤ t) : (low t b).1 ≤ t := Int.ediv_le_self _ h0
theorem low_cross (t b : Int) : t * (low t b).2 = (low t b).1 * b := by
  have h1 := low_t t b
  have h2 := low_b t b
  calc t * (low t b).2 = (low t b).1 * gc t b * (low t b).2 := by rw [h1]
    _ = (low t b).1 * ((low t b).2 * gc t b) := by rw [Int.mul_assoc, Int.mul_comm (gc t b)]
    _ = (low t b).1 * b := by rw [h2]
theorem low_scale {t b k : Int} (h : 0 < k) : low (t * k) (b * k) = low t b := by
  unfold low gc
  rw [Int.gcd_mul_right, Int.natCast_mul, Int.natAbs_of_nonneg (by omega), Int.mul_ediv_mul_of_pos_left _ _ h, Int.mul_ediv_mul_of_pos_left _ _ h]
theorem low_uniq {t b t' b' : Int} (h : 0 < b) (h' : 0 < b') (e : t * b' = t' * b) : low t b = low t' b' := by
  rw [← low_scale (t := t) (b := b) h', ← low_scale (t := t') (b := b') h, e, Int.mul_comm b b']
theorem low_low {t b : Int} (h : 1 ≤ b) : low (low t b).1 (low t b).2 = low t b :=
  low_uniq (by have := low_bpos (t := t) h; omega) (by omega) (low_cross t b).symm
theorem low_of_eq {t b t' b' : Int} (h : 1 ≤ b) (e : low t b = low t' b') : t * b' = t' * b := by
  have c1 := low_cross t b
  have c2 := low_cross t' b'
  rw [← e] at c2
  have hb := low_bpos (t := t) h
  refine Int.eq_of_mul_eq_mul_right (a := (low t b).2) (by omega) ?_
  calc t * b' * (low t b).2 = t * (low t b).2 * b' := by rw [Int.mul_assoc, Int.mul_comm b', Int.mul_assoc]
    _ = (low t b).1 * b' * b := by rw [c1, Int.mul_assoc, Int.mul_comm b, ← Int.mul_assoc]
    _ = t' * b * (low t b).2 := by rw [← c2, Int.mul_assoc, Int.mul_comm _ b, ← Int.mul_assoc]
theorem gc_step {x y : Int} : gc y (x % y) = gc x y := by
  unfold gc
  rw [Int.gcd_comm x y]
  have h := Int.gcd_add_mul_left_right y (x % y) (x / y)
  rw [Int.emod_add_mul_ediv] at h
  rw [h]
theorem gc_zero {x : Int} (h : 0 ≤ x) : gc x 0 = x := by
  unfold gc
  rw [Int.gcd_zero_right]
  omega
/-- what _law_lowest's two divisions ask -/
theorem low_divs {t b : Int} (hb : 1 ≤ b) (z : Sz 9000 b) : CDivP t (gc t b) ∧ CDivP b (gc t b) := by
  have g := gc_pos (t := t) hb
  have zg : Sz 9000 (gc t b) := z.le (by omega) (gc_le hb)
  exact ⟨zg.cd g, zg.cd g⟩
theorem low_near {t b : Int} (hb : 1 ≤ b) (h1 : Sz 3000 (low t b).1) (h2 : Sz 3000 (low t b).2) : CDivP t (gc t b) ∧ CDivP b (gc t b) := by
  have g := gc_pos (t := t) hb
  have e1 := congrArg Int.natAbs (low_t t b)
  have e2 := congrArg Int.natAbs (low_b t b)
  rw [Int.natAbs_mul] at e1 e2
  have h1 : (low t b).1.natAbs < 2 ^ 3000 := h1
  have h2 : (low t b).2.natAbs < 2 ^ 3000 := h2
  refine ⟨cdp_near (k := 3000) g ?_, cdp_near (k := 3000) g ?_⟩
  · rw [← e1]
    exact Nat.mul_le_mul_right _ (Nat.le_of_lt h1)
  · rw [← e2]
    exact Nat.mul_le_mul_right _ (Nat.le_of_lt h2)

/-- the numbers up to n that divide n -/
def divs (n : Nat) : List Int := (upto n).filter fun k => decide ((n : Int) % k = 0)
theorem divs_len (n : Nat) : (divs n).length ≤ n := by
  have := List.length_filter_le (fun k => decide ((n : Int) % k = 0)) (upto n)
  rw [upto_length] at this
  exact this
theorem mem_divs {n : Nat} {x : Int} : x ∈ divs n ↔ (1 ≤ x ∧ x ≤ n) ∧ (n : Int) % x = 0 := by
  unfold divs
  rw [List.mem_filter, mem_upto, decide_eq_true_eq]
theorem divs_nodup (n : Nat) : (divs n).Nodup := by
  have up : ∀ m : Nat, (upto m).Nodup := fun m => by
    refine List.pairwise_map.mpr (List.nodup_range.imp fun {a b} h z => h ?_)
    omega
  exact List.Pairwise.filter _ (up n)
/-- a divisor or its fellow is at most 31 -/
theorem divs_few {n : Nat} (h : n ≤ 1000) : (divs n).length ≤ 62 := by
  have s : divs n ⊆ upto 31 ++ (upto 31).map fun k => (n : Int) / k := fun x hx => by
    obtain ⟨⟨x1, x2⟩, x3⟩ := mem_divs.mp hx
    have e := Int.emod_add_mul_ediv (n : Int) x
    rw [x3, Int.zero_add] at e
    by_cases c : x ≤ 31
    · exact List.mem_append_left _ (mem_upto.mpr ⟨x1, by omega⟩)
    · refine List.mem_append_right _ (List.mem_map.mpr ⟨(n : Int) / x, mem_upto.mpr ⟨?_, ?_⟩, ?_⟩)
      · by_cases z : 1 ≤ (n : Int) / x
        · exact z
        · have : x * ((n : Int) / x) ≤ x * 0 := Int.mul_le_mul_of_nonneg_left (by omega) (by omega)
          omega
      · by_cases z : (n : Int) / x ≤ 31
        · omega
        · have : 32 * 32 ≤ x * ((n : Int) / x) := Int.mul_le_mul (by omega) (by omega) (by omega) (by omega)
          omega
      · have q : 1 ≤ (n : Int) / x := by
          by_cases z : 1 ≤ (n : Int) / x
          · exact z
          · have : x * ((n : Int) / x) ≤ x * 0 := Int.mul_le_mul_of_nonneg_left (by omega) (by omega)
            omega
        generalize (n : Int) / x = y at *
        rw [← e, Int.mul_ediv_cancel _ (by omega)]
  have l := List.Nodup.length_le_of_subset (divs_nodup n) s
  rw [List.length_append, List.length_map, upto_length] at l
  exact l

/-! ### set(xs) of a list of ints -/
section
variable {P : Program} {w : World} {A : Around} {E : Value → Shared → Prop}
/-- a set that was just made -/
abbrev bare (w : World) : Obj := { cls := .type "set", dict := none, data := .set #[] 0 (.fresh 0 0 (!w.params.followText "set-order")) }
/-- what set.__init__ leaves of s, the set at a: it holds the ints, all of g is kept -/
def Filled (w : World) (s : Shared) (g : Heap) (a : Addr) (ns : List Int) (v : Value) (s' : Shared) : Prop :=
  v = .none ∧ ∃ h tk c, s' = { s with heap := h, toks := tk } ∧ SetR w h a (fun j => decide (j ∈ ns)) c ∧ c ≤ ns.length ∧ ∀ b o, g.get? b = some o → h.get? b = some o
/-- the filling, over the list's own iterator -/
theorem fill_list {g : Heap} {s : Shared} {l : Addr} {its : Array Value} {ns : List Int} (hs : s.heap = (g.push (bare w)).push { cls := .type "list_iterator", data := .fields #[.ref l, .int 0 0] }) (hh : A.handled = none)
    (hl : g.IsList l its) (hi : IntsAre its.toList ns) (hn : its.size = ns.length) (hb : ns.length + 1 < scanBound) {R : Result → Shared → Prop} (hr : ∀ s', Filled w s g g.objs.size ns .none s' → R (.ok (.ret .none)) s') :
    codeAny (model P w) A (.builtin "set.update.loop" ⟨[.ref g.objs.size, .ref (g.objs.size + 1)], []⟩) R s := by
  have lt : l < g.objs.size := by
    obtain ⟨o, e, _⟩ := hl
    exact Heap.lt_size e
  have z1 : (g.push (bare w)).objs.size = g.objs.size + 1 := Heap.size_push ..
  have a0 : (g.push (bare w)).get? g.objs.size = some (bare w) := Heap.get?_push_size _ rfl
  have apart : g.objs.size ∉ [g.objs.size + 1, l] := by
    intro m
    rcases List.mem_cons.mp m with e | m
    · exact Nat.ne_of_lt (Nat.lt_succ_self _) e
    · exact Nat.ne_of_gt lt (List.mem_singleton.mp m)
  have val : ∀ (i : Nat) (v : Value), its[i]? = some v → ∃ k t, ns[i]? = some k ∧ v = .int k t := fun i v e => by
    have hi' : i < ns.length := hn ▸ (Array.getElem?_eq_some_iff.mp e).1
    obtain ⟨t, q⟩ := IntsAre.int_at hi i v (by rw [Array.getElem?_toList]; exact e)
    have d : ns.getD i 0 = ns[i] := by rw [List.getD_eq_getElem?_getD, List.getElem?_eq_getElem hi'] <;> rfl
    exact ⟨ns[i], t, List.getElem?_eq_getElem hi', by rw [q, d]⟩
  have hh1 : A.in1.handled = none := hh
  have hl1 : (g.push (bare w)).IsList l its := hl.push _
  obtain ⟨hp, gg, d, tk, os⟩ := s
  have hs : hp = (g.push (bare w)).push { cls := .type "list_iterator", data := .fields #[.ref l, .int 0 0] } := hs
  subst hs
  have W := (Walks.list (prog := P) (w := w) hh1 (g.objs.size + 1) l (Nat.ne_of_lt (Nat.lt_succ_of_lt lt)) its).toS
  refine set_update_ints W g.objs.size apart ns hn hb val (its.size - 0) 0 _ (by omega) (Nat.zero_le _) ?_ ⟨0, Nat.le_refl 0, setR_new_at (Heap.get?_push_of_some _ a0)⟩ fun s' c m hc hR => ?_
  · exact ⟨⟨_, by rw [← z1]; exact Heap.get?_push_size _ rfl, rfl, rfl⟩, hl1.push _⟩
  · obtain ⟨h', g2, d2, tk2, os2⟩ := s'
    cases (m.gens : g2 = gg)
    cases (m.drawn : d2 = d)
    cases (m.os : os2 = os)
    refine hr _ ⟨rfl, h', tk2, c, rfl, hR, hn ▸ hc, fun b o e => ?_⟩
    have hb' := Heap.lt_size e
    refine m.heap b o (fun z => ?_) (Heap.get?_push_of_some _ (Heap.get?_push_of_some _ e))
    rcases List.mem_cons.mp z with z | z
    · exact Nat.ne_of_lt hb' z
    · exact Nat.ne_of_lt (Nat.lt_succ_of_lt hb') (List.mem_singleton.mp z)
set_option maxHeartbeats 3200000 in
theorem init_list {g : Heap} {s : Shared} {l : Addr} {its : Array Value} {ns : List Int} (hs : s.heap = g.push (bare w)) (hh : A.handled = none) (hl : g.IsList l its) (hi : IntsAre its.toList ns) (hn : its.size = ns.length) (hb : ns.length + 1 < scanBound) :
    codeAny (model P w) A (.call (.builtin "set.__init__") ⟨[.ref g.objs.size, .ref l], []⟩) (wants (Filled w s g g.objs.size ns) E) s := by
  have here : s.heap.get? g.objs.size = some (bare w) := by
    rw [hs]
    exact Heap.get?_push_size _ rfl
  have ty : s.TypeIs (.ref g.objs.size) "set" := ⟨_, here, rfl⟩
  have hl1 : s.heap.IsList l its := by
    rw [hs]
    exact hl.push _
  refine codeAny_call_builtin F.called_set.init.plain F.entry_set_init (check_set_init_1 ty ?_)
  obtain ⟨ol, gl, cl, nl, dl⟩ := id hl1
  obtain ⟨ocls, odict, odata, oslots⟩ := ol
  simp only at cl dl
  subst cl dl
  have n1 := F.sub_list_set
  have n2 := F.sub_list_frozenset
  have n3 : (Value.type "list" == Value.type "dict") = false := by decide
  obtain ⟨hp, gg, d, tk, os⟩ := s
  dsimp only at hs here gl hl1 ty
  subst hs
  unfold Builtin.«set.__init__» noKeywords Builtin.Frozenset.updateFrom
  generalize eI : pyIter = it
  wp_walk
  subst eI
  refine wpAny_pyIter_list hl1 ?_
  refine wpAny_bind (wpAny_runValue ?_)
  have z1 : (g.push (bare w)).objs.size = g.objs.size + 1 := Heap.size_push ..
  rw [z1]
  refine fill_list (g := g) rfl (by simpa using hh) hl hi hn hb fun s' f => ?_
  obtain ⟨_, h', tk', c, rfl, r⟩ := f
  show wpAny _ _ _ _ _ _
  refine wpAny_pure ?_
  show wpAny _ _ (ret Value.none) _ _ _
  exact wpAny_pure ⟨rfl, h', tk', c, rfl, r⟩
set_option maxHeartbeats 3200000 in
theorem set_of_list {s : Shared} {l : Addr} {its : Array Value} {ns : List Int} (hh : A.handled = none) (hl : s.heap.IsList l its) (hi : IntsAre its.toList ns) (hb : ns.length + 1 < scanBound) {Q : Value → Shared → Prop}
    (hq : ∀ (h : Heap) (tk c : Nat), SetR w h s.heap.objs.size (fun j => decide (j ∈ ns)) c → c ≤ ns.length → (∀ b o, s.heap.get? b = some o → h.get? b = some o) → Q (.ref s.heap.objs.size) { s with heap := h, toks := tk }) :
    wpAny (model P w) A (call (.type "set") [.ref l]) Q E s := by
  have hn : its.size = ns.length := by
    have q := IntsAre.length hi
    rwa [Array.length_toList] at q
  obtain ⟨c, tl, hmro⟩ := F.called_set.mro
  have f1 := F.called_set.made
  have f2 := F.called_set.sub
  have f3 := F.called_set.notType
  have f4 := F.called_set.canCreate
  have f5 := F.typeCall_set_1 (.ref l)
  refine wpAny_call (codeAny_of_tree ?_)
  show wpAny _ _ (callAny (.type "set") _) _ _ _
  refine wpAny_pure ⟨Code.quiet_builtin _ (by decide +kernel), codeAny_builtin F.entry_type_call ?_⟩
  rw [Around.under_plain (weight_type_call_type "set" [.ref l] []) rfl]
  repeat (any_goals (first | assumption | wp_step))
  refine codeAny_mono (code_set_led1 (w := w) (.ref l) (E := E) (Q₁ := fun u s₁ => u = .ref s.heap.objs.size ∧ s₁ = { s with heap := s.heap.push (bare w) }) ⟨rfl, rfl⟩) fun r s₁ hr => ?_
  cases r with
  | error e => exact hr
  | ok fl =>
    cases fl with
    | ret u =>
      obtain ⟨rfl, rfl⟩ := hr
      have here : (s.heap.push (bare w)).get? s.heap.objs.size = some (bare w) := Heap.get?_push_size _ rfl
      have ty : Shared.TypeIs { s with heap := s.heap.push (bare w) } (.ref s.heap.objs.size) "set" := ⟨_, here, rfl⟩
      have g1 := F.called_set.init.lookup
      have g2 := F.called_set.init.bind (.ref s.heap.objs.size)
      repeat (any_goals (first | assumption | wp_step))
      refine codeAny_mono (init_list (s := { s with heap := s.heap.push (bare w) }) rfl hh hl hi hn hb (E := E)) fun r₂ s₂ h₂ => ?_
      cases r₂ with
      | error e => exact h₂
      | ok f2 =>
        cases f2 with
        | ret v =>
          obtain ⟨rfl, h', tk', c', rfl, hR, hc, hk⟩ := h₂
          repeat (any_goals (first | assumption | wp_step))
          exact hq _ _ _ hR hc hk
        | next => exact h₂.elim
        | brk => exact h₂.elim
        | cont => exact h₂.elim
    | next => exact hr.elim
    | brk => exact hr.elim
    | cont => exact hr.elim
end
/-- set(xs) -/
def rSetL (K : PySem.W.Frag) (w : World) : List V → Hp → VK → Prop := fun vs H Q => ∃ (l : Addr) (ns : List Int), vs = [V.ref l] ∧ SqL K H l (ns.map V.int) ∧ ns.length < 4000 ∧
  ∀ (p : Addr) (c : Nat), H p = none → c ≤ ns.length → Q (.ref p) (upd H p (SetO w p (fun j => decide (j ∈ ns)) c))
theorem cr_setL {X : Cx} (hc : X.calm = true) : CallR X (.type "set") (rSetL X.K X.w) := by
  intro pins s σ H vs us Q I r h
  obtain ⟨l, ns, rfl, hS, hn, q⟩ := h
  obtain ⟨u, rfl, ru⟩ := vals1 r
  cases ru
  obtain ⟨its, rv, pl, hz⟩ := I.list hS
  refine set_of_list (I.ok.hd hc) pl.isList (ns := ns) (by simpa using RZ.intsAre_vals rv) (by unfold scanBound; omega) fun h tk c hR hc' hk => ?_
  exact ⟨.ref _, _, I.laid (t' := tk) (a := s.heap.objs.size) hk (Nat.le_refl _) (setO_new hR), rfl, q _ c (I.hok.fresh (Nat.le_refl _)) hc'⟩

/-! ### pairs of ints, compared -/
theorem dp_pair {K : PySem.W.Frag} {H : Hp} {a : Addr} {t u : Int} (h : SqT K H a [.int t, .int u]) : Dp K H (.ref a) (.tuple [.int t, .int u]) := .tup h (.cons (.int t) (.cons (.int u) .nil))
theorem eqv_pair (t u t' u' : Int) : PyData.eqv (.tuple [.int t, .int u]) (.tuple [.int t', .int u']) = decide (t = t' ∧ u = u') := by
  simp [PyData.eqv, PyData.eqvAll, Bool.decide_and]
  rfl

--: math = setlist
--: math = pairs
/-! ### lists that rise -/
def Ris (xs : List Int) : Prop := xs.Pairwise (· < ·)
instance (xs : List Int) : Decidable (Ris xs) := inferInstanceAs (Decidable (xs.Pairwise _))
theorem ris_uniq : ∀ {a b : List Int}, Ris a → Ris b → (∀ k, k ∈ a ↔ k ∈ b) → a = b
  | [], [], _, _, _ => rfl
  | [], y :: b, _, _, h => absurd ((h y).mpr List.mem_cons_self) (by simp)
  | x :: a, [], _, _, h => absurd ((h x).mp List.mem_cons_self) (by simp)
  | x :: a, y :: b, ha, hb, h => by
    obtain ⟨a1, a2⟩ := List.pairwise_cons.mp ha
    obtain ⟨b1, b2⟩ := List.pairwise_cons.mp hb
    have e : x = y := by
      rcases List.mem_cons.mp ((h x).mp List.mem_cons_self) with e | m
      · exact e
      · rcases List.mem_cons.mp ((h y).mpr List.mem_cons_self) with e | m'
        · exact e.symm
        · have := b1 x m
          have := a1 y m'
          omega
    subst e
    refine congrArg (x :: ·) (ris_uniq a2 b2 fun k => ⟨fun m => ?_, fun m => ?_⟩)
    · rcases List.mem_cons.mp ((h k).mp (List.mem_cons_of_mem _ m)) with e | m'
      · have := a1 k m
        omega
      · exact m'
    · rcases List.mem_cons.mp ((h k).mpr (List.mem_cons_of_mem _ m)) with e | m'
      · have := b1 k m
        omega
      · exact m'
theorem ris_adj {xs : List Int} (h : ∀ (j : Nat) (x y : Int), xs[j]? = some x → xs[j + 1]? = some y → x < y) : Ris xs := by
  refine List.pairwise_iff_getElem.mpr fun i j hi hj hij => ?_
  obtain ⟨d, rfl⟩ : ∃ d, j = i + 1 + d := ⟨j - (i + 1), by omega⟩
  induction d with
  | zero => exact h i _ _ (List.getElem?_eq_getElem hi) (List.getElem?_eq_getElem hj)
  | succ d ih =>
    have h1 := ih (by omega) (by omega)
    have h2 := h (i + 1 + d) _ _ (List.getElem?_eq_getElem (by omega)) (List.getElem?_eq_getElem hj)
    omega
theorem ris_at {xs : List Int} (h : Ris xs) {j : Nat} {x y : Int} (e1 : xs[j]? = some x) (e2 : xs[j + 1]? = some y) : x < y := by
  obtain ⟨h1, rfl⟩ := List.getElem?_eq_some_iff.mp e1
  obtain ⟨h2, rfl⟩ := List.getElem?_eq_some_iff.mp e2
  exact List.pairwise_iff_getElem.mp h j (j + 1) h1 h2 (by omega)
/-! ### data of ints, compared -/
theorem dp_ints {K : PySem.W.Frag} {H : Hp} {a : Addr} {xs : List Int} (h : SqL K H a (xs.map V.int)) : Dp K H (.ref a) (.list (xs.map PyData.int)) := by
  refine .lst h ?_
  clear h
  induction xs with
  | nil => exact .nil
  | cons x xs ih => exact .cons (.int x) ih
theorem eqvAll_ints : ∀ xs ys : List Int, PyData.eqvAll (xs.map PyData.int) (ys.map PyData.int) = decide (xs = ys)
  | [], [] => by simp [PyData.eqvAll]
  | [], y :: ys => by simp [PyData.eqvAll]
  | x :: xs, [] => by simp [PyData.eqvAll]
  | x :: xs, y :: ys => by
    have ih := eqvAll_ints xs ys
    simp only [List.map_cons, PyData.eqvAll, PyData.eqv, ih]
    rw [Bool.eq_iff_iff]
    simp
theorem eqv_ints (xs ys : List Int) : PyData.eqv (.list (xs.map PyData.int)) (.list (ys.map PyData.int)) = decide (xs = ys) := by
  rw [← eqvAll_ints]
  simp only [PyData.eqv]
theorem canLay_ints : ∀ xs : List Int, PyData.canLayAll0 (xs.map PyData.int) = true
  | [] => rfl
  | x :: xs => by
    simp only [List.map_cons, PyData.canLayAll0, PyData.canLay0, canLay_ints xs]
    rfl
theorem depth_ints : ∀ xs : List Int, PyData.depthAll (xs.map PyData.int) = 0
  | [] => rfl
  | x :: xs => by
    simp only [List.map_cons, PyData.depthAll, PyData.depth, depth_ints xs]
    rfl
theorem shaped_ints (xs : List Int) : SeqAt.shaped (.list (xs.map PyData.int)) = true := by
  unfold SeqAt.shaped
  simp only [PyData.canLay0, PyData.depth, canLay_ints, depth_ints]
  rfl

--: math = divs
--: math = ris
/-! ### which sums a row has -/
/-- a dict whose keys are these, each with True -/
def kvI (ks : List Int) : List (L2.Key × V) := ks.map fun k => (Sum.inl k, .bl true)
def putI (ks : List Int) (x : Int) : List Int := if x ∈ ks then ks else ks ++ [x]
theorem any_kv (x : Int) : ∀ ks : List Int, ((kvI ks).any fun kv => decide (kv.1 = (Sum.inl x : L2.Key))) = decide (x ∈ ks)
  | [] => by simp [kvI]
  | y :: ks => by
    have ih := any_kv x ks
    unfold kvI at ih ⊢
    rw [List.map_cons, List.any_cons, ih, Bool.eq_iff_iff, Bool.or_eq_true, decide_eq_true_eq, decide_eq_true_eq, decide_eq_true_eq, List.mem_cons]
    exact or_congr ⟨fun z => (Sum.inl.inj z).symm, fun z => congrArg Sum.inl z.symm⟩ Iff.rfl
theorem val_kv (ks : List Int) (x : Int) : (valV (kvI ks) (Sum.inl x : L2.Key)).isSome = decide (x ∈ ks) := by
  rw [← valV_any, any_kv]
theorem put_kv (ks : List Int) (x : Int) : putK (kvI ks) (Sum.inl x : L2.Key) (.bl true) = kvI (putI ks x) := by
  unfold putK putI
  rw [any_kv]
  by_cases h : x ∈ ks
  · rw [if_pos (decide_eq_true h), if_pos h]
    unfold kvI
    rw [List.map_map]
    refine List.map_congr_left fun y _ => ?_
    show (if (Sum.inl y : L2.Key) = Sum.inl x then _ else _) = _
    split <;> rfl
  · rw [if_neg (by simpa using h), if_neg h]
    unfold kvI
    rw [List.map_append] <;> rfl
theorem kvI_len (ks : List Int) : (kvI ks).length = ks.length := List.length_map _
theorem kvI_keys (ks : List Int) : ((kvI ks).map fun kv => kV kv.1) = ks.map V.int := by
  unfold kvI
  rw [List.map_map] <;> rfl
theorem mem_putI {ks : List Int} {x y : Int} : y ∈ putI ks x ↔ y ∈ ks ∨ y = x := by
  unfold putI
  split
  · constructor
    · exact .inl
    · rintro (h | rfl) <;> assumption
  · simp
/-- to ks each t + n, t of src, where p allows it -/
def addP (p : Int → Bool) (n : Int) (ks src : List Int) : List Int := src.foldl (fun m t => if p (t + n) = true then putI m (t + n) else m) ks
theorem addP_snoc (p : Int → Bool) (n : Int) (ks src : List Int) (t : Int) : addP p n ks (src ++ [t]) = if p (t + n) = true then putI (addP p n ks src) (t + n) else addP p n ks src := by
  unfold addP
  rw [List.foldl_append] <;> rfl
theorem mem_addP {p : Int → Bool} {n x : Int} {ks : List Int} (src : List Int) : x ∈ addP p n ks src ↔ x ∈ ks ∨ (p x = true ∧ x - n ∈ src) := by
  refine snoc_ind (fun src => x ∈ addP p n ks src ↔ x ∈ ks ∨ (p x = true ∧ x - n ∈ src)) src ?_ (fun l t ih => ?_)
  · show x ∈ ks ↔ _
    simp
  · rw [addP_snoc]
    by_cases h : p (t + n) = true
    · rw [if_pos h, mem_putI, ih, List.mem_append, List.mem_singleton]
      constructor
      · rintro ((a | ⟨a, b⟩) | rfl)
        · exact .inl a
        · exact .inr ⟨a, .inl b⟩
        · exact .inr ⟨h, .inr (by omega)⟩
      · rintro (a | ⟨a, b | b⟩)
        · exact .inl (.inl a)
        · exact .inl (.inr ⟨a, b⟩)
        · exact .inr (by omega)
    · rw [if_neg h, ih, List.mem_append, List.mem_singleton]
      constructor
      · rintro (a | ⟨a, b⟩)
        · exact .inl a
        · exact .inr ⟨a, .inl b⟩
      · rintro (a | ⟨a, b | b⟩)
        · exact .inl a
        · exact .inr ⟨a, b⟩
        · have e : x = t + n := by omega
          rw [e] at a
          exact absurd a h
/-- the sums of the first k of a row, those that p allows -/
def tabs (p : Int → Bool) (row : List Int) : Nat → List Int
  | 0 => [0]
  | k + 1 => match row[k]? with
    | some n => addP p n (tabs p row k) (tabs p row k)
    | none => tabs p row k
theorem tabs_at {p : Int → Bool} {row : List Int} {k : Nat} {n : Int} (h : row[k]? = some n) : tabs p row (k + 1) = addP p n (tabs p row k) (tabs p row k) := by
  show (match row[k]? with | some n => addP p n (tabs p row k) (tabs p row k) | none => tabs p row k) = _
  rw [h]
theorem tabs_no {p : Int → Bool} {row : List Int} {k : Nat} (h : row[k]? = none) : tabs p row (k + 1) = tabs p row k := by
  show (match row[k]? with | some n => addP p n (tabs p row k) (tabs p row k) | none => tabs p row k) = _
  rw [h]
theorem nodup_putI {ks : List Int} {x : Int} (h : ks.Nodup) : (putI ks x).Nodup := by
  unfold putI
  split
  · exact h
  · rename_i c
    exact nd_snoc h c
theorem nodup_addP {p : Int → Bool} {n : Int} {ks : List Int} (h : ks.Nodup) (src : List Int) : (addP p n ks src).Nodup := by
  refine snoc_ind (fun src => (addP p n ks src).Nodup) src h (fun l t ih => ?_)
  rw [addP_snoc]
  split
  · exact nodup_putI ih
  · exact ih
/-- a row of numbers from one to M -/
def Row (M : Int) (row : List Int) : Prop := ∀ x ∈ row, (1 : Int) ≤ x ∧ x ≤ M
theorem tabs_in {p : Int → Bool} {row : List Int} {M : Int} (h : Row M row) (hM : 0 ≤ M) : ∀ k, (tabs p row k).Nodup ∧ (∀ x ∈ tabs p row k, 0 ≤ x ∧ x ≤ M * k)
  | 0 => ⟨by simp [tabs], fun x hx => by
    rw [List.mem_singleton.mp hx]
    exact ⟨Int.le_refl 0, by rw [Int.natCast_zero, Int.mul_zero] <;> exact Int.le_refl 0⟩⟩
  | k + 1 => by
    obtain ⟨i1, i2⟩ := tabs_in (p := p) h hM k
    have e : M * ((k + 1 : Nat) : Int) = M * k + M := by rw [Int.natCast_add, Int.mul_add] <;> simp
    cases er : row[k]? with
    | none =>
      rw [tabs_no er]
      exact ⟨i1, fun x hx => by have := i2 x hx; omega⟩
    | some n =>
      have hn := h n (List.mem_of_getElem? er)
      rw [tabs_at er]
      refine ⟨nodup_addP i1 _, fun x hx => ?_⟩
      rcases (mem_addP _).mp hx with a | ⟨_, a⟩
      · have := i2 x a
        omega
      · have := i2 _ a
        omega
theorem few_of {ks : List Int} {N : Int} (h : ks.Nodup) (hb : ∀ x ∈ ks, 0 ≤ x ∧ x ≤ N) : ks.length ≤ N.toNat + 1 := by
  have s : ks ⊆ 0 :: upto N.toNat := fun x hx => by
    have := hb x hx
    by_cases z : x = 0
    · rw [z]
      exact List.mem_cons_self
    · exact List.mem_cons_of_mem _ (mem_upto.mpr ⟨by omega, by omega⟩)
  have := List.Nodup.length_le_of_subset h s
  rw [List.length_cons, upto_length] at this
  exact this
theorem tabs_len {p : Int → Bool} {row : List Int} (h : Row 1000 row) {k : Nat} (hk : k ≤ 1000) : (tabs p row k).length ≤ 1000001 := by
  obtain ⟨a, b⟩ := tabs_in (p := p) h (by decide) k
  have := few_of a b
  omega
theorem mem_tabs {p : Int → Bool} {row : List Int} {k : Nat} {n x : Int} (h : row[k]? = some n) : x ∈ tabs p row (k + 1) ↔ x ∈ tabs p row k ∨ (p x = true ∧ x - n ∈ tabs p row k) := by
  rw [tabs_at h, mem_addP]
/-- what a lid leaves out does not matter below it -/
theorem tabs_lid {row : List Int} {M W : Int} (h : Row M row) : ∀ (k : Nat) (x : Int), x ≤ W → (x ∈ tabs (fun x => decide (x ≤ W)) row k ↔ x ∈ tabs (fun _ => true) row k)
  | 0, x, _ => Iff.rfl
  | k + 1, x, hx => by
    cases er : row[k]? with
    | none =>
      rw [tabs_no er, tabs_no er]
      exact tabs_lid h k x hx
    | some n =>
      have hn := h n (List.mem_of_getElem? er)
      rw [mem_tabs er, mem_tabs er, tabs_lid h k x hx, tabs_lid h k (x - n) (by omega)]
      exact or_congr Iff.rfl (and_congr ⟨fun _ => rfl, fun _ => decide_eq_true hx⟩ Iff.rfl)
/-- taken from the greatest on: what is taken, and what is left -/
def gr (tb : Nat → List Int) (row : List Int) : Nat → Int → List Int × Int
  | 0, w => ([], w)
  | k + 1, w => match row[k]? with
    | none => gr tb row k w
    | some r => if r ≤ w ∧ w - r ∈ tb k then (r :: (gr tb row k (w - r)).1, (gr tb row k (w - r)).2) else gr tb row k w
theorem gr_yes {tb : Nat → List Int} {row : List Int} {k : Nat} {w r : Int} (h : row[k]? = some r) (c : r ≤ w ∧ w - r ∈ tb k) : gr tb row (k + 1) w = (r :: (gr tb row k (w - r)).1, (gr tb row k (w - r)).2) := by
  show (match row[k]? with | none => gr tb row k w | some r => if r ≤ w ∧ w - r ∈ tb k then (r :: (gr tb row k (w - r)).1, (gr tb row k (w - r)).2) else gr tb row k w) = _
  rw [h]
  exact if_pos c
theorem gr_not {tb : Nat → List Int} {row : List Int} {k : Nat} {w r : Int} (h : row[k]? = some r) (c : ¬ (r ≤ w ∧ w - r ∈ tb k)) : gr tb row (k + 1) w = gr tb row k w := by
  show (match row[k]? with | none => gr tb row k w | some r => if r ≤ w ∧ w - r ∈ tb k then (r :: (gr tb row k (w - r)).1, (gr tb row k (w - r)).2) else gr tb row k w) = _
  rw [h]
  exact if_neg c
theorem gr_none {tb : Nat → List Int} {row : List Int} {k : Nat} {w : Int} (h : row[k]? = none) : gr tb row (k + 1) w = gr tb row k w := by
  show (match row[k]? with | none => gr tb row k w | some r => if r ≤ w ∧ w - r ∈ tb k then (r :: (gr tb row k (w - r)).1, (gr tb row k (w - r)).2) else gr tb row k w) = _
  rw [h]
theorem gr_lid {row : List Int} {M W : Int} (h : Row M row) : ∀ (k : Nat) (w : Int), w ≤ W → gr (tabs (fun x => decide (x ≤ W)) row) row k w = gr (tabs (fun _ => true) row) row k w
  | 0, _, _ => rfl
  | k + 1, w, hw => by
    cases er : row[k]? with
    | none =>
      rw [gr_none er, gr_none er]
      exact gr_lid h k w hw
    | some r =>
      have hr := h r (List.mem_of_getElem? er)
      have e := tabs_lid (W := W) h k (w - r) (by omega)
      by_cases c : r ≤ w ∧ w - r ∈ tabs (fun _ => true) row k
      · rw [gr_yes er c, gr_yes er ⟨c.1, e.mpr c.2⟩, gr_lid h k (w - r) (by omega)]
      · rw [gr_not er c, gr_not er fun z => c ⟨z.1, e.mp z.2⟩, gr_lid h k w hw]
/-- nothing is left just where the row has the sum -/
theorem gr_zero {row : List Int} {M : Int} (h : Row M row) (hM : 0 ≤ M) : ∀ (k : Nat) (w : Int), 0 ≤ w → 0 ≤ (gr (tabs (fun _ => true) row) row k w).2 ∧ ((gr (tabs (fun _ => true) row) row k w).2 = 0 ↔ w ∈ tabs (fun _ => true) row k)
  | 0, w, hw => ⟨hw, by
    show w = 0 ↔ w ∈ [0]
    simp⟩
  | k + 1, w, hw => by
    cases er : row[k]? with
    | none =>
      rw [gr_none er, tabs_no er]
      exact gr_zero h hM k w hw
    | some r =>
      have hr := h r (List.mem_of_getElem? er)
      rw [mem_tabs er]
      by_cases c : r ≤ w ∧ w - r ∈ tabs (fun _ => true) row k
      · obtain ⟨a, b⟩ := gr_zero h hM k (w - r) (by omega)
        rw [gr_yes er c]
        exact ⟨a, b.trans ⟨fun z => .inr ⟨rfl, z⟩, fun _ => c.2⟩⟩
      · obtain ⟨a, b⟩ := gr_zero h hM k w hw
        rw [gr_not er c]
        refine ⟨a, b.trans ⟨.inl, fun z => z.resolve_right fun z => c ⟨?_, z.2⟩⟩⟩
        have := (tabs_in (p := fun _ => true) h hM k).2 _ z.2
        omega
theorem gr_sum {tb : Nat → List Int} {row : List Int} : ∀ (k : Nat) (w : Int), (gr tb row k w).1.sum + (gr tb row k w).2 = w
  | 0, w => by
    show (0 : Int) + w = w
    omega
  | k + 1, w => by
    cases er : row[k]? with
    | none =>
      rw [gr_none er]
      exact gr_sum k w
    | some r =>
      by_cases c : r ≤ w ∧ w - r ∈ tb k
      · have := gr_sum (tb := tb) (row := row) k (w - r)
        rw [gr_yes er c]
        show (r :: _).sum + _ = w
        rw [List.sum_cons]
        omega
      · rw [gr_not er c]
        exact gr_sum k w
theorem gr_mem {tb : Nat → List Int} {row : List Int} : ∀ (k : Nat) (w : Int), ∀ x ∈ (gr tb row k w).1, ∃ j, j < k ∧ row[j]? = some x
  | 0, w => fun x hx => nomatch hx
  | k + 1, w => fun x hx => by
    have low : ∀ w, x ∈ (gr tb row k w).1 → ∃ j, j < k + 1 ∧ row[j]? = some x := fun w hx => by
      obtain ⟨j, a, b⟩ := gr_mem k w x hx
      exact ⟨j, by omega, b⟩
    cases er : row[k]? with
    | none =>
      rw [gr_none er] at hx
      exact low w hx
    | some r =>
      by_cases c : r ≤ w ∧ w - r ∈ tb k
      · rw [gr_yes er c] at hx
        rcases List.mem_cons.mp hx with rfl | hx
        · exact ⟨k, by omega, er⟩
        · exact low _ hx
      · rw [gr_not er c] at hx
        exact low w hx
theorem gr_falls {tb : Nat → List Int} {row : List Int} (hr : Ris row) : ∀ (k : Nat) (w : Int), (gr tb row k w).1.Pairwise (· > ·)
  | 0, w => List.Pairwise.nil
  | k + 1, w => by
    cases er : row[k]? with
    | none =>
      rw [gr_none er]
      exact gr_falls hr k w
    | some r =>
      by_cases c : r ≤ w ∧ w - r ∈ tb k
      · rw [gr_yes er c]
        refine List.pairwise_cons.mpr ⟨fun x hx => ?_, gr_falls hr k _⟩
        obtain ⟨j, a, b⟩ := gr_mem k _ x hx
        obtain ⟨h1, rfl⟩ := List.getElem?_eq_some_iff.mp er
        obtain ⟨h2, rfl⟩ := List.getElem?_eq_some_iff.mp b
        exact List.pairwise_iff_getElem.mp hr j k h2 h1 a
      · rw [gr_not er c]
        exact gr_falls hr k w
theorem gr_len {tb : Nat → List Int} {row : List Int} : ∀ (k : Nat) (w : Int), (gr tb row k w).1.length ≤ k
  | 0, w => Nat.le_refl 0
  | k + 1, w => by
    cases er : row[k]? with
    | none =>
      rw [gr_none er]
      exact Nat.le_succ_of_le (gr_len k w)
    | some r =>
      by_cases c : r ≤ w ∧ w - r ∈ tb k
      · rw [gr_yes er c]
        exact Nat.succ_le_succ (gr_len k _)
      · rw [gr_not er c]
        exact Nat.le_succ_of_le (gr_len k w)
/-! ### parts of a number -/
theorem ris_upto : ∀ n : Nat, Ris (upto n)
  | 0 => List.Pairwise.nil
  | n + 1 => by
    rw [upto_succ]
    refine List.pairwise_append.mpr ⟨ris_upto n, List.pairwise_singleton _ _, fun x hx y hy => ?_⟩
    have := mem_upto.mp hx
    rw [List.mem_singleton.mp hy]
    omega
theorem ris_divs (n : Nat) : Ris (divs n) := List.Pairwise.filter _ (ris_upto n)
theorem row_divs {n : Nat} {M : Int} (h : (n : Int) ≤ M) : Row M (divs n) := fun x hx => by
  have := (mem_divs.mp hx).1
  omega
def allT (n : Nat) : Nat → List Int := tabs (fun _ => true) (divs n)
/-- the parts of w by n, where there are -/
def partsF (n : Nat) (w : Int) : Option (List Int) := if w ∈ allT n (divs n).length then some (gr (allT n) (divs n) (divs n).length w).1 else none
theorem partsF_some {n : Nat} {w : Int} {l : List Int} (h : partsF n w = some l) (hw : 0 ≤ w) : l.sum = w ∧ l.Pairwise (· > ·) ∧ (∀ x ∈ l, x ∈ divs n) ∧ l.length ≤ (divs n).length := by
  unfold partsF at h
  split at h
  · rename_i c
    cases h
    have z := ((gr_zero (row_divs (Int.le_refl (n : Int))) (Int.natCast_nonneg n) (divs n).length w hw).2).mpr c
    have s := gr_sum (tb := allT n) (row := divs n) (divs n).length w
    refine ⟨?_, gr_falls (ris_divs n) _ _, fun x hx => ?_, gr_len _ _⟩
    · have z : (gr (allT n) (divs n) (divs n).length w).2 = 0 := z
      omega
    · obtain ⟨j, _, b⟩ := gr_mem _ _ x hx
      exact List.mem_of_getElem? b
  · cases h
/-- the law's own walk tells the same -/
theorem partsF_lid {n : Nat} {w : Int} (hw : 0 ≤ w) : (if 0 < (gr (tabs (fun x => decide (x ≤ w)) (divs n)) (divs n) (divs n).length w).2 then none else some (gr (tabs (fun x => decide (x ≤ w)) (divs n)) (divs n) (divs n).length w).1) = partsF n w := by
  rw [gr_lid (row_divs (Int.le_refl (n : Int))) _ w (Int.le_refl w)]
  obtain ⟨a, b⟩ := gr_zero (row_divs (Int.le_refl (n : Int))) (Int.natCast_nonneg n) (divs n).length w hw
  unfold partsF
  by_cases c : w ∈ allT n (divs n).length
  · rw [if_pos c, if_neg (by have := b.mpr c; omega)] <;> rfl
  · rw [if_neg c, if_pos]
    have : ¬ (gr (tabs (fun _ => true) (divs n)) (divs n) (divs n).length w).2 = 0 := fun z => c (b.mp z)
    omega
/-! ### the dicts in a list -/
/-- at F a list of m + 1 dicts: the tables 0 to m -/
structure TabsAt (H : Hp) (F : Addr) (tb : Nat → List Int) (m : Nat) (ds : List Addr) : Prop where
  lst : H F = some (.lst (ds.map V.ref))
  len : ds.length = m + 1
  each : ∀ (j : Nat) (d : Addr), ds[j]? = some d → H d = some (.dK (kvI (tb j)))
theorem TabsAt.same {H H' : Hp} {F : Addr} {tb : Nat → List Int} {m : Nat} {ds : List Addr} (h : TabsAt H F tb m ds) (s : Same H H') : TabsAt H' F tb m ds := ⟨s _ _ h.lst, h.len, fun j d e => s _ _ (h.each j d e)⟩
theorem TabsAt.at {H : Hp} {F : Addr} {tb : Nat → List Int} {m : Nat} {ds : List Addr} (h : TabsAt H F tb m ds) {j : Nat} (hj : j ≤ m) : ∃ d, (ds.map V.ref)[j]? = some (.ref d) ∧ H d = some (.dK (kvI (tb j))) := by
  have l := h.len
  have hl : j < ds.length := by omega
  exact ⟨ds[j], get_map (List.getElem?_eq_getElem hl), h.each j _ (List.getElem?_eq_getElem hl)⟩
theorem atI_neg1 {α : Type} {xs : List α} {v : α} (h : xs[xs.length - 1]? = some v) : atI xs (-1) = some v := by
  have hl := lt_of_get h
  have e : xs = xs.dropLast ++ [v] := by
    have ne : xs ≠ [] := fun z => by
      rw [z] at hl
      exact absurd hl (by simp)
    rw [← List.dropLast_concat_getLast ne] at h ⊢
    congr 1
    · rw [List.dropLast_concat]
    · rw [List.getLast_eq_getElem ne]
      have := (List.getElem?_eq_some_iff.mp (by rw [List.dropLast_concat_getLast ne] at h; exact h)).2
      rw [this]
  rw [e]
  exact atI_last _ _
theorem TabsAt.last {H : Hp} {F : Addr} {tb : Nat → List Int} {m : Nat} {ds : List Addr} (h : TabsAt H F tb m ds) : ∃ d, atI (ds.map V.ref) (-1) = some (.ref d) ∧ H d = some (.dK (kvI (tb m))) := by
  obtain ⟨d, e1, e2⟩ := h.at (Nat.le_refl m)
  refine ⟨d, atI_neg1 ?_, e2⟩
  rw [List.length_map, h.len]
  exact e1
theorem TabsAt.push {H : Hp} {F M : Addr} {tb : Nat → List Int} {m : Nat} {ds : List Addr} (h : TabsAt H F tb m ds) (eM : H M = some (.dK (kvI (tb (m + 1))))) : TabsAt (upd H F (.lst (ds.map V.ref ++ [.ref M]))) F tb (m + 1) (ds ++ [M]) := ⟨by rw [upd_same, List.map_append] <;> rfl, by rw [List.length_append, h.len] <;> rfl, fun j d e => by
  have k : H d = some (.dK (kvI (tb j))) := by
    by_cases c : j < ds.length
    · rw [List.getElem?_append_left c] at e
      exact h.each j d e
    · have hl := h.len
      have hj := lt_of_get e
      rw [List.length_append, List.length_singleton] at hj
      obtain rfl : j = m + 1 := by omega
      rw [List.getElem?_append_right (by omega), hl, Nat.sub_self] at e
      cases e
      exact eM
  rw [upd_ne (ne_of k h.lst (fun z => by cases z))]
  exact k⟩
theorem addP_len {p : Int → Bool} {n : Int} {ks : List Int} (src : List Int) : (addP p n ks src).length ≤ ks.length + src.length := by
  refine snoc_ind (fun src => (addP p n ks src).length ≤ ks.length + src.length) src (Nat.le_refl _) (fun l t ih => ?_)
  rw [addP_snoc, List.length_append, List.length_singleton]
  split
  · unfold putI
    split
    · omega
    · rw [List.length_append, List.length_singleton]
      omega
  · omega
theorem nodup_falls {l : List Int} (h : l.Pairwise (· > ·)) : l.Nodup := h.imp fun z => by omega

--: math = low
/-! ### sums of shares -/
def sumS (xs : List Int) : Int × Int := xs.foldl (fun p s => (p.1 * s + p.2, p.2 * s)) (0, 1)
/-- the sum of the shares, in lowest terms -/
def lowS (xs : List Int) : Int × Int := low (sumS xs).1 (sumS xs).2
/-- shares: none below one -/
def Pos (xs : List Int) : Prop := ∀ x ∈ xs, (1 : Int) ≤ x
theorem sumS_snoc (xs : List Int) (s : Int) : sumS (xs ++ [s]) = ((sumS xs).1 * s + (sumS xs).2, (sumS xs).2 * s) := by
  unfold sumS
  rw [List.foldl_append] <;> rfl
theorem sumS_nil : sumS [] = (0, 1) := rfl
theorem low_01 : low 0 1 = (0, 1) := by decide
theorem lowS_nil : lowS [] = (0, 1) := low_01
theorem Pos.snoc {xs : List Int} {s : Int} (h : Pos (xs ++ [s])) : Pos xs ∧ 1 ≤ s :=
  ⟨fun x hx => h x (List.mem_append_left _ hx), h s (List.mem_append_right _ List.mem_cons_self)⟩
theorem sumS_pos (xs : List Int) : Pos xs → 0 ≤ (sumS xs).1 ∧ 1 ≤ (sumS xs).2 ∧ (sumS xs).1 ≤ xs.length * (sumS xs).2 := by
  refine snoc_ind (fun xs => Pos xs → 0 ≤ (sumS xs).1 ∧ 1 ≤ (sumS xs).2 ∧ (sumS xs).1 ≤ xs.length * (sumS xs).2) xs (fun _ => ⟨by decide, by decide, by decide⟩) (fun l x ih h => ?_)
  obtain ⟨h1, h2⟩ := h.snoc
  obtain ⟨a, b, c⟩ := ih h1
  rw [sumS_snoc, List.length_append]
  have p1 : 0 ≤ (sumS l).1 * x := Int.mul_nonneg a (by omega)
  have p2 : 0 < (sumS l).2 * x := Int.mul_pos (by omega) (by omega)
  refine ⟨by show 0 ≤ (sumS l).1 * x + (sumS l).2; omega, p2, ?_⟩
  show (sumS l).1 * x + (sumS l).2 ≤ ((l.length + 1 : Nat) : Int) * ((sumS l).2 * x)
  have q1 : (sumS l).1 * x ≤ l.length * (sumS l).2 * x := Int.mul_le_mul_of_nonneg_right c (by omega)
  have q2 : (sumS l).2 * 1 ≤ (sumS l).2 * x := Int.mul_le_mul_of_nonneg_left h2 (by omega)
  rw [Int.natCast_add, Int.add_mul, ← Int.mul_assoc]
  omega
theorem pos_take {xs : List Int} (h : Pos xs) (i : Nat) : Pos (xs.take i) := fun x hx => h x (List.mem_of_mem_take hx)
theorem sumS_append_le (ys xs : List Int) : Pos (xs ++ ys) → (sumS xs).2 ≤ (sumS (xs ++ ys)).2 := by
  refine snoc_ind (fun ys => Pos (xs ++ ys) → (sumS xs).2 ≤ (sumS (xs ++ ys)).2) ys (fun _ => ?_) (fun l x ih h => ?_)
  · rw [List.append_nil]
    exact Int.le_refl _
  · rw [← List.append_assoc] at h ⊢
    obtain ⟨h1, h2⟩ := h.snoc
    have a := ih h1
    have b := (sumS_pos _ h1).2.1
    rw [sumS_snoc (xs ++ l)]
    show (sumS xs).2 ≤ (sumS (xs ++ l)).2 * x
    have : (sumS (xs ++ l)).2 * 1 ≤ (sumS (xs ++ l)).2 * x := Int.mul_le_mul_of_nonneg_left h2 (by omega)
    omega
theorem sumS_take_le {xs : List Int} (h : Pos xs) (i : Nat) : (sumS (xs.take i)).2 ≤ (sumS xs).2 := by
  have := sumS_append_le (xs.drop i) (xs.take i)
  rw [List.take_append_drop] at this
  exact this h
/-- sizes within a sum -/
structure SumOk (xs : List Int) : Prop where
  pos : Pos xs
  sz : Sz 4000 (sumS xs).2
  len : xs.length ≤ 1000
theorem SumOk.take {xs : List Int} (h : SumOk xs) (i : Nat) : SumOk (xs.take i) where
  pos := pos_take h.pos i
  sz := h.sz.le (by have := (sumS_pos _ (pos_take h.pos i)).2.1; omega) (sumS_take_le h.pos i)
  len := by
    have := h.len
    rw [List.length_take]
    omega
theorem SumOk.top {xs : List Int} (h : SumOk xs) : Sz 4010 (sumS xs).1 := by
  obtain ⟨a, b, c⟩ := sumS_pos _ h.pos
  have hl : Sz 10 (xs.length : Int) := by
    have := h.len
    show (xs.length : Int).natAbs < 1024
    omega
  exact (hl.mul h.sz).mono.le a c
theorem SumOk.item {xs : List Int} (h : SumOk xs) {i : Nat} {s : Int} (e : xs[i]? = some s) : 1 ≤ s ∧ Sz 4000 s := by
  have hs : 1 ≤ s := h.pos s (List.mem_of_getElem? e)
  have k := (h.take (i + 1)).sz
  rw [List.take_add_one, e] at k
  have k : Sz 4000 (sumS (xs.take i ++ [s])).2 := k
  rw [sumS_snoc] at k
  have b := (sumS_pos _ (pos_take h.pos i)).2.1
  refine ⟨hs, Sz.le k (by omega) ?_⟩
  show s ≤ (sumS (xs.take i)).2 * s
  have : 1 * s ≤ (sumS (xs.take i)).2 * s := Int.mul_le_mul_of_nonneg_right b (by omega)
  omega
theorem low_step {t b s : Int} (hb : 1 ≤ b) (hs : 1 ≤ s) : low ((low t b).1 * s + 1 * (low t b).2) ((low t b).2 * s) = low (t * s + b) (b * s) := by
  have h := low_bpos (t := t) hb
  have p1 : 0 < (low t b).2 * s := Int.mul_pos (by omega) (by omega)
  have p2 : 0 < b * s := Int.mul_pos (by omega) (by omega)
  refine low_uniq p1 p2 ?_
  have c := low_cross t b
  generalize (low t b).1 = x at *
  generalize (low t b).2 = y at *
  have c2 : t * y * (s * s) = x * b * (s * s) := by rw [c]
  simp only [Int.add_mul, Int.mul_add, Int.one_mul] at *
  simp only [Int.mul_comm, Int.mul_left_comm, Int.mul_assoc] at *
  omega
theorem lowS_snoc {xs : List Int} {s : Int} (h : Pos xs) (hs : 1 ≤ s) : low ((lowS xs).1 * s + 1 * (lowS xs).2) ((lowS xs).2 * s) = lowS (xs ++ [s]) := by
  unfold lowS
  rw [low_step (sumS_pos _ h).2.1 hs, sumS_snoc]
theorem prod_sz {m : Nat} (xs : List Int) : (∀ x ∈ xs, (1 : Int) ≤ x ∧ Sz m x) → Sz (m * xs.length + 1) (sumS xs).2 := by
  refine snoc_ind (fun xs => (∀ x ∈ xs, (1 : Int) ≤ x ∧ Sz m x) → Sz (m * xs.length + 1) (sumS xs).2) xs (fun _ => Sz.one (by show 0 < m * 0 + 1; omega)) (fun l x ih h => ?_)
  have h1 := ih fun y hy => h y (List.mem_append_left _ hy)
  have h2 := (h x (List.mem_append_right _ List.mem_cons_self)).2
  rw [sumS_snoc, List.length_append]
  exact (h1.mul h2).mono (by show m * l.length + 1 + m ≤ m * (l.length + 1) + 1; rw [Nat.mul_add]; omega)
theorem cm_prod {x y : Int} {n : Nat} (hx : 0 ≤ x) (hy : 1 ≤ y) (h : Sz n (x * y)) (h2 : Sz n y) (h0 : 0 < n := by decide) (hn : n ≤ 1000000 := by decide) : CMulW x y := by
  unfold CMulW
  by_cases z : x = 0
  · subst z
    have := PySem.Flt.log2_lt_of h0 h2
    have e : (0 : Int).natAbs.log2 = 0 := by decide
    omega
  · have a := Nat.log2_self_le (n := x.natAbs) (by omega)
    have b := Nat.log2_self_le (n := y.natAbs) (by omega)
    have c : 2 ^ (x.natAbs.log2 + y.natAbs.log2) < 2 ^ n := by
      rw [Nat.pow_add]
      refine Nat.lt_of_le_of_lt (Nat.mul_le_mul a b) ?_
      rw [← Int.natAbs_mul]
      exact h
    have := (Nat.pow_lt_pow_iff_right (by decide : 1 < 2)).mp c
    omega
/-- sizes within a sum, great ones -/
structure SumC (xs : List Int) : Prop where
  pos : Pos xs
  sz : Sz 600000 (sumS xs).2
  len : xs.length ≤ 1000
  d1 : CDivP (sumS xs).1 (gc (sumS xs).1 (sumS xs).2)
  d2 : CDivP (sumS xs).2 (gc (sumS xs).1 (sumS xs).2)
theorem SumOk.c {xs : List Int} (h : SumOk xs) : SumC xs := by
  obtain ⟨a, b, c⟩ := sumS_pos _ h.pos
  have g := gc_pos (t := (sumS xs).1) b
  have z : Sz 9000 (gc (sumS xs).1 (sumS xs).2) := (h.sz.mono : Sz 9000 _).le (by omega) (gc_le b)
  exact ⟨h.pos, h.sz.mono, h.len, z.cd g, z.cd g⟩
theorem SumC.at {xs : List Int} (h : SumC xs) (i : Nat) : Sz 600000 (sumS (xs.take i)).2 ∧ Sz 600010 (sumS (xs.take i)).1 := by
  obtain ⟨a, b, c⟩ := sumS_pos _ (pos_take h.pos i)
  have s2 : Sz 600000 (sumS (xs.take i)).2 := h.sz.le (by omega) (sumS_take_le h.pos i)
  have hl : Sz 10 ((xs.take i).length : Int) := by
    have := h.len
    have : (xs.take i).length ≤ xs.length := by rw [List.length_take]; omega
    show ((xs.take i).length : Int).natAbs < 1024
    omega
  exact ⟨s2, (hl.mul s2).mono.le a c⟩
theorem SumC.step {xs : List Int} (h : SumC xs) {i : Nat} {s : Int} (e : xs[i]? = some s) : CMulW (sumS (xs.take i)).1 s ∧ CMulW (sumS (xs.take i)).2 s := by
  have hs : 1 ≤ s := h.pos s (List.mem_of_getElem? e)
  obtain ⟨a, b, c⟩ := sumS_pos _ (pos_take h.pos i)
  have k := h.at (i + 1)
  rw [take_snoc e, sumS_snoc] at k
  obtain ⟨k1, k2⟩ := k
  have k1 : Sz 600000 ((sumS (xs.take i)).2 * s) := k1
  have k2 : Sz 600010 ((sumS (xs.take i)).1 * s + (sumS (xs.take i)).2) := k2
  have p1 : 0 ≤ (sumS (xs.take i)).1 * s := Int.mul_nonneg a (by omega)
  have s1 : s ≤ (sumS (xs.take i)).2 * s := by
    have : 1 * s ≤ (sumS (xs.take i)).2 * s := Int.mul_le_mul_of_nonneg_right b (by omega)
    omega
  have zs : Sz 600000 s := k1.le (by omega) s1
  exact ⟨cm_prod (n := 600010) a hs (k2.le p1 (by omega)) zs.mono, cm_prod (n := 600000) (by omega) hs k1 zs⟩

--: math = parts
--: math = sums
/-! ### by which m a fraction goes -/
def goR (T B : Int) : Nat → Int → Option (Int × List Int)
  | 0, _ => none
  | n + 1, m => if 1000 < B * m then none else match partsF (B * m).toNat (T * m) with
    | some l => some (m, l.map fun p => B * m / p)
    | none => goR T B n (m + 1)
theorem goR_great {T B m : Int} {n : Nat} (h : 1000 < B * m) : goR T B (n + 1) m = none := if_pos h
theorem goR_some {T B m : Int} {n : Nat} {l : List Int} (h : ¬ 1000 < B * m) (e : partsF (B * m).toNat (T * m) = some l) : goR T B (n + 1) m = some (m, l.map fun p => B * m / p) := by
  show (if 1000 < B * m then none else match partsF (B * m).toNat (T * m) with | some l => some (m, l.map fun p => B * m / p) | none => goR T B n (m + 1)) = _
  rw [if_neg h, e]
theorem goR_none {T B m : Int} {n : Nat} (h : ¬ 1000 < B * m) (e : partsF (B * m).toNat (T * m) = none) : goR T B (n + 1) m = goR T B n (m + 1) := by
  show (if 1000 < B * m then none else match partsF (B * m).toNat (T * m) with | some l => some (m, l.map fun p => B * m / p) | none => goR T B n (m + 1)) = _
  rw [if_neg h, e]
/-- the least m up to most, and the shares -/
def goF (T B : Int) (most : Int) : Option (Int × List Int) := goR T B most.toNat 1
/-- a list of numbers each of which divides N -/
theorem quot_mul {N p : Int} (h : 1 ≤ p) (d : N % p = 0) : p * (N / p) = N := by
  have e := Int.emod_add_mul_ediv N p
  omega
theorem quot_ris {N : Int} (hN : 1 ≤ N) {l : List Int} (h : ∀ x ∈ l, 1 ≤ x ∧ N % x = 0) (f : l.Pairwise (· > ·)) : Ris (l.map fun p => N / p) := by
  refine List.pairwise_map.mpr (f.imp_of_mem fun {x y} hx hy g => ?_)
  obtain ⟨x1, x2⟩ := h x hx
  obtain ⟨y1, y2⟩ := h y hy
  have ex := quot_mul x1 x2
  have ey := quot_mul y1 y2
  have g : y < x := g
  have qx : 1 ≤ N / x := by
    by_cases z : 1 ≤ N / x
    · exact z
    · have : x * (N / x) ≤ x * 0 := Int.mul_le_mul_of_nonneg_left (by omega) (by omega)
      omega
  refine Int.lt_of_mul_lt_mul_left (a := y) ?_ (by omega)
  rw [ey]
  have : y * (N / x) < x * (N / x) := Int.mul_lt_mul_of_pos_right g (by omega)
  omega
theorem quot_in {N : Int} (hN : 1 ≤ N) {x : Int} (h : 1 ≤ x ∧ N % x = 0) : 1 ≤ N / x ∧ N / x ≤ N := by
  have e := quot_mul h.1 h.2
  have q : 1 ≤ N / x := by
    by_cases z : 1 ≤ N / x
    · exact z
    · have : x * (N / x) ≤ x * 0 := Int.mul_le_mul_of_nonneg_left (by omega) (by omega)
      omega
  refine ⟨q, ?_⟩
  have : 1 * (N / x) ≤ x * (N / x) := Int.mul_le_mul_of_nonneg_right h.1 (by omega)
  omega
theorem fold_quot {N : Int} : ∀ (l : List Int) (u v : Int), (∀ x ∈ l, 1 ≤ x ∧ N % x = 0 ∧ 1 ≤ N / x) →
    ((l.map fun p => N / p).foldl (fun q s => (q.1 * s + q.2, q.2 * s)) (u, v)).1 * (v * N) = (u * N + l.sum * v) * ((l.map fun p => N / p).foldl (fun q s => (q.1 * s + q.2, q.2 * s)) (u, v)).2
  | [], u, v, _ => by
    show u * (v * N) = (u * N + 0 * v) * v
    rw [Int.zero_mul, Int.add_zero, Int.mul_comm v N, Int.mul_assoc u]
  | p :: l, u, v, h => by
    obtain ⟨p1, p2, p3⟩ := h p List.mem_cons_self
    have e := fold_quot l (u * (N / p) + v) (v * (N / p)) fun x hx => h x (List.mem_cons_of_mem _ hx)
    have ep := quot_mul p1 p2
    rw [List.sum_cons]
    show ((l.map fun p => N / p).foldl _ (u * (N / p) + v, v * (N / p))).1 * (v * N) = (u * N + (p + l.sum) * v) * ((l.map fun p => N / p).foldl _ (u * (N / p) + v, v * (N / p))).2
    revert e
    generalize (l.map fun p => N / p).foldl (fun q s => (q.1 * s + q.2, q.2 * s)) (u * (N / p) + v, v * (N / p)) = X
    generalize N / p = y at *
    obtain ⟨a, b⟩ := X
    intro e
    have e : a * (v * y * N) = ((u * y + v) * N + l.sum * (v * y)) * b := e
    show a * (v * N) = (u * N + (p + l.sum) * v) * b
    refine Int.eq_of_mul_eq_mul_right (a := y) (by omega) ?_
    have k1 : a * (v * N) * y = a * (v * y * N) := by simp only [Int.mul_comm, Int.mul_left_comm, Int.mul_assoc]
    have k2 : (u * N + (p + l.sum) * v) * b * y = ((u * y + v) * N + l.sum * (v * y)) * b := by
      have : p * v * y = v * N := by
        rw [← ep]
        simp only [Int.mul_comm, Int.mul_left_comm, Int.mul_assoc]
      rw [Int.mul_right_comm]
      congr 1
      rw [Int.add_mul, Int.add_mul p, Int.add_mul (p * v), this, Int.add_mul (u * y)]
      simp only [Int.mul_comm, Int.mul_left_comm, Int.mul_assoc]
      omega
    rw [k1, k2, e]
/-- what the answer is good for -/
structure Goes (T B : Int) (xs : List Int) : Prop where
  ris : Ris xs
  each : ∀ x ∈ xs, (1 : Int) ≤ x ∧ x ≤ 1000
  len : xs.length ≤ 62
  sum : lowS xs = low T B
theorem goR_ok {T B : Int} (hT : 0 ≤ T) (hB : 1 ≤ B) : ∀ (n : Nat) (m : Int), 1 ≤ m → ∀ r, goR T B n m = some r → Goes T B r.2 ∧ m ≤ r.1
  | 0, m, _, r, e => nomatch e
  | n + 1, m, hm, r, e => by
    by_cases c : 1000 < B * m
    · rw [goR_great c] at e
      cases e
    · have N1 : 1 ≤ B * m := Int.mul_pos (by omega) (by omega)
      have eN : (((B * m).toNat : Nat) : Int) = B * m := by omega
      have w0 : 0 ≤ T * m := Int.mul_nonneg hT (by omega)
      cases ep : partsF (B * m).toNat (T * m) with
      | none =>
        rw [goR_none c ep] at e
        obtain ⟨a, b⟩ := goR_ok hT hB n (m + 1) (by omega) r e
        exact ⟨a, by omega⟩
      | some l =>
        rw [goR_some c ep] at e
        cases e
        obtain ⟨l1, l2, l3, l4⟩ := partsF_some ep w0
        have d : ∀ x ∈ l, 1 ≤ x ∧ B * m % x = 0 := fun x hx => by
          have := mem_divs.mp (l3 x hx)
          rw [eN] at this
          exact ⟨this.1.1, this.2⟩
        have each : ∀ x ∈ (l.map fun p => B * m / p), (1 : Int) ≤ x ∧ x ≤ 1000 := fun x hx => by
          obtain ⟨p, hp, rfl⟩ := List.mem_map.mp hx
          have := quot_in N1 (d p hp)
          omega
        refine ⟨⟨quot_ris N1 d l2, each, by rw [List.length_map]; exact Nat.le_trans l4 (divs_few (by omega)), ?_⟩, Int.le_refl m⟩
        have f := fold_quot (N := B * m) l 0 1 fun x hx => ⟨(d x hx).1, (d x hx).2, (quot_in N1 (d x hx)).1⟩
        have f : (sumS (l.map fun p => B * m / p)).1 * (1 * (B * m)) = (0 * (B * m) + l.sum * 1) * (sumS (l.map fun p => B * m / p)).2 := f
        rw [Int.zero_mul, Int.mul_one, Int.one_mul, Int.zero_add, l1] at f
        have b := (sumS_pos (l.map fun p => B * m / p) fun x hx => (each x hx).1).2.1
        show low _ _ = _
        rw [low_uniq (by omega) (by omega) f, low_scale (by omega)]
theorem goF_ok {T B most m : Int} {xs : List Int} (hT : 0 ≤ T) (hB : 1 ≤ B) (e : goF T B most = some (m, xs)) : Goes T B xs := (goR_ok hT hB _ 1 (Int.le_refl 1) _ e).1
theorem Goes.sumC {T B : Int} {xs : List Int} (h : Goes T B xs) (hT : 0 ≤ T) (hB : 1 ≤ B) (z1 : Sz 3000 T) (z2 : Sz 3000 B) : SumC xs := by
  have pos : Pos xs := fun x hx => (h.each x hx).1
  obtain ⟨a, b, c⟩ := sumS_pos _ pos
  have e : low (sumS xs).1 (sumS xs).2 = low T B := h.sum
  have n1 : Sz 3000 (low T B).1 := z1.le (low_tnn hB hT) (low_tle hT)
  have n2 : Sz 3000 (low T B).2 := z2.le (by have := low_bpos (t := T) hB; omega) (low_ble hB)
  rw [← e] at n1 n2
  obtain ⟨d1, d2⟩ := low_near b n1 n2
  refine ⟨pos, ?_, Nat.le_trans h.len (by decide), d1, d2⟩
  have p := prod_sz (m := 10) xs fun x hx => ⟨(h.each x hx).1, by have := h.each x hx; show x.natAbs < 1024; omega⟩
  have := h.len
  exact p.mono (by omega)
/-- an answer as it stands in a heap -/
def GoAt (H : Hp) (p L : Addr) (m : Int) (xs : List Int) : Prop := H p = some (.tup [.int m, .ref L]) ∧ H L = some (.lst (xs.map V.int))
theorem dp_go {K : PySem.W.Frag} {H : Hp} {p L : Addr} {m : Int} {xs : List Int} (h : GoAt H p L m xs) : Dp K H (.ref p) (.tuple [.int m, .list (xs.map PyData.int)]) :=
  .tup (SqT.of h.1) (.cons (.int m) (.cons (dp_ints (SqL.of h.2)) .nil))
theorem eqv_go (m : Int) (xs : List Int) : PyData.eqv (.tuple [.int m, .list (xs.map PyData.int)]) (.tuple [.int m, .list (xs.map PyData.int)]) = true := by
  have e := eqv_ints xs xs
  rw [decide_eq_true rfl] at e
  simp [PyData.eqv, PyData.eqvAll] at e ⊢
  exact e
theorem shaped_go (m : Int) (xs : List Int) : SeqAt.shaped (.tuple [.int m, .list (xs.map PyData.int)]) = true := by
  unfold SeqAt.shaped
  simp only [PyData.canLay0, PyData.canLayAll0, PyData.depth, PyData.depthAll, canLay_ints, depth_ints]
  rfl
theorem eqv_int (m : Int) : PyData.eqv (.int m) (.int m) = true := by simp [PyData.eqv]
theorem go_arg {x y : Int} {n : Nat} (h : x = n) : [V.int x, V.int y] = [V.int (n : Int), V.int y] := by rw [h]

structure ErrA where
  ShareError : Addr
  NoFraction : Addr
  NotBelow : Addr
  TooGreat : Addr
  BadText : Addr
  NotRising : Addr
structure ErrC (K : PySem.W.Frag) (mg : Str → Option Value) (C S : Addr) (x : Str) : Prop where
  g : mg x = some (.ref C)
  x : PySem.W.excIn K C veT "ValueError.__new__" = true
  k : PySem.W.keepIn K (.ref C) = true
  b : PySem.W.subIn K (.ref C) (.type "BaseException") = some true
  t : PySem.W.typeIn K (.ref C) = some (.type "type")
structure ErrOk (K : PySem.W.Frag) (mg : Str → Option Value) (e : ErrA) : Prop where
  ShareError : ErrC K mg e.ShareError e.ShareError "ShareError"
  NoFraction : ErrC K mg e.NoFraction e.ShareError "NoFraction"
  NotBelow : ErrC K mg e.NotBelow e.ShareError "NotBelow"

section
variable {P : Program} {w : World} {K : PySem.W.Frag} {mg : Str → Option Value} {base : Heap} {e : ErrA}

abbrev s_see : Stmt := topS 5
abbrev N_see : List Str := ["fraction"]
theorem sc_see : FnScope N_see ["fraction"] (defScope s_see) := ⟨rfl, rfl, rfl, by decide +kernel, rfl, by decide +kernel, by decide +kernel⟩
def sp_see (K : PySem.W.Frag) (e : ErrA) : Sp := fun vs H Q E => ∃ (a : Addr) (t b : Int), vs = [.ref a] ∧ SqT K H a [.int t, .int b] ∧ ((t < 0 ∨ b < 1) → E (.ref e.NoFraction) none H) ∧ (¬ (t < 0 ∨ b < 1) → Q .non H)
theorem ok_see (D : Stands K mg "see" s_see) (B : Bi mg) (Er : ErrOk K mg e) : Keeps P w K mg base 1 "see" ["fraction"] (sp_see K e) := by
  obtain ⟨f, fd, F, mF⟩ := D
  have h_NoFraction := Er.NoFraction
  refine ⟨f, fd, ?_, F.binds (ps := ["fraction"]) (fun _ _ _ _ _ _ us hl => match us, hl with | [_], _ => rfl), mF, F.kp⟩
  refine F.okX sc_see (fun vs H Q E h => ?_) (fun cdv A outer s H vs Q E hr h => ?_)
  · obtain ⟨a, t, b, rfl, hS, kE, kQ⟩ := h
    rfl
  · obtain ⟨a, t, b, rfl, hS, kE, kQ⟩ := h
    refine ⟨_, (pss_one (ps_if (PW.pt (pw_or (pt_cmpR op_lt (pe_ix ix_tup (pv 0) pe_int (fun _ _ => rfl)) pe_int (nomark _)) (pw_or1 (pt_cmpR op_lt (pe_ix ix_tup (pv 0) pe_int (fun _ _ => rfl)) pe_int (nomark _))))) (pss_one (ps_raise rfl (takes_of rfl rfl rfl rfl) (pmk_own PySem.F.excBase_ValueError h_NoFraction.x h_NoFraction.g h_NoFraction.k (raises_own h_NoFraction.b h_NoFraction.t) rfl))) pss_nil)), ?_⟩
    refine ⟨_, rfl, a, _, 0, _, rfl, rfl, hS, atI_nat (j := 0) rfl, _, _, rfl, rfl, _, rfl, ite2 (fun c => ?_) (fun c => ?_)⟩
    · refine iteT ?_
      exact kE (.inl (of_decide_eq_true c))
    · have c0 : ¬ t < 0 := fun z => c (decide_eq_true z)
      refine ⟨_, rfl, a, _, 1, _, rfl, rfl, hS, atI_nat (j := 1) rfl, _, _, rfl, rfl, _, rfl, ite2 (fun c => ?_) (fun c => ?_)⟩
      · exact kE (.inr (of_decide_eq_true c))
      · exact kQ fun z => z.elim c0 fun z => c (decide_eq_true z)

abbrev s_common : Stmt := topS 6
abbrev N_common : List Str := ["one", "other", "rest"]
theorem sc_common : FnScope N_common ["one", "other"] (defScope s_common) := ⟨rfl, rfl, rfl, by decide +kernel, rfl, by decide +kernel, by decide +kernel⟩
def sp_common (K : PySem.W.Frag) (_ : ErrA) : Sp := fun vs H Q _ => ∃ x y : Int, vs = [.int x, .int y] ∧ 0 ≤ x ∧ 0 ≤ y ∧ Q (.int (gc x y)) H
theorem ok_common (D : Stands K mg "common" s_common) (B : Bi mg) (Er : ErrOk K mg e) : Keeps P w K mg base 1 "common" ["one", "other"] (sp_common K e) := by
  obtain ⟨f, fd, F, mF⟩ := D
  refine ⟨f, fd, ?_, F.binds (ps := ["one", "other"]) (fun _ _ _ _ _ _ us hl => match us, hl with | [_, _], _ => rfl), mF, F.kp⟩
  refine toX (F.ok sc_common (fun vs H Q E h => ?_) (fun cdv A outer s H vs Q E hr h => ?_))
  · obtain ⟨x, y, rfl, hx, hy, q⟩ := h
    rfl
  · obtain ⟨x, y, rfl, hx, hy, q⟩ := h
    refine ⟨_, (pss_cons (ps_while PassesOwn.never (pt_cmpR op_gt (pv 1) pe_int (nomark _)) (pss_cons (ps_set (i := 2) sc_common.nd rfl (Or.inl rfl) (pe_op op_mod (pv 0) (pv 1)))
      (pss_cons (ps_set (i := 0) sc_common.nd rfl (Or.inl rfl) (pv 1))
      (pss_one (ps_set (i := 1) sc_common.nd rfl (Or.inl rfl) (pv 2))))))
      (pss_one (ps_ret (pv 0)))), ?_⟩
    refine while_by (fun σ H' => H' = H ∧ ∃ (u v : Int) (r : Option V), σ = [some (.int u), some (.int v), r] ∧ 0 ≤ u ∧ 0 ≤ v ∧ gc u v = gc x y)
      (fun σ _ => match σ with | [_, some (.int v), _] => v.toNat | _ => 0) ⟨rfl, x, y, none, rfl, hx, hy, rfl⟩ ?_ ?_
    · rintro σ H' ⟨rfl, u, v, r, rfl, hu, hv, hg⟩
      refine ⟨_, rfl, _, _, rfl, rfl, _, rfl, ite2 (fun c => ?_) (fun c => ?_)⟩
      · have c := of_decide_eq_true c
        have m1 := Int.emod_nonneg u (b := v) (by omega)
        have m2 := Int.emod_lt_of_pos u c
        refine ⟨_, rfl, _, rfl, _, _, rfl, rfl, c, _, rfl, _, rfl, ⟨rfl, v, u % v, _, rfl, hv, m1, gc_step.trans hg⟩, ?_⟩
        show (u % v).toNat < v.toNat
        omega
      · have c : ¬ 0 < v := fun z => c (decide_eq_true z)
        have v0 : v = 0 := by omega
        subst v0
        rw [gc_zero hu] at hg
        refine ⟨_, rfl, ?_⟩
        rw [hg]
        exact q
    · rintro σ H' Q1 Q2 hq ⟨v, e1, i, j, e2, e3, k, e4, e5⟩
      exact ⟨v, e1, i, j, e2, e3, k, e4, hq _ _ e5⟩

abbrev s_lowest : Stmt := topS 7
abbrev N_lowest : List Str := ["fraction", "far"]
theorem sc_lowest : FnScope N_lowest ["fraction"] (defScope s_lowest) := ⟨rfl, rfl, rfl, by decide +kernel, rfl, by decide +kernel, by decide +kernel⟩
def sp_lowest (K : PySem.W.Frag) (e : ErrA) : Sp := fun vs H Q E => ∃ (a : Addr) (t b : Int), vs = [.ref a] ∧ SqT K H a [.int t, .int b] ∧ Sz 9000 b ∧ ((t < 0 ∨ b < 1) → E (.ref e.NoFraction) none H) ∧
  (¬ (t < 0 ∨ b < 1) → ∀ H' p, Same H H' → H p = none → H' p = some (.tup [.int (low t b).1, .int (low t b).2]) → Q (.ref p) H')
theorem ok_lowest (D : Stands K mg "lowest" s_lowest) (B : Bi mg) (Er : ErrOk K mg e)
    (h_see : Keeps P w K mg base 1 "see" ["fraction"] (sp_see K e))
    (h_common : Keeps P w K mg base 1 "common" ["one", "other"] (sp_common K e)) : Keeps P w K mg base 2 "lowest" ["fraction"] (sp_lowest K e) := by
  obtain ⟨f, fd, F, mF⟩ := D
  obtain ⟨f_see, fd_see, G_see, b_see, m_see, k_see⟩ := h_see
  obtain ⟨f_common, fd_common, G_common, b_common, m_common, k_common⟩ := h_common
  refine ⟨f, fd, ?_, F.binds (ps := ["fraction"]) (fun _ _ _ _ _ _ us hl => match us, hl with | [_], _ => rfl), mF, F.kp⟩
  refine F.okX sc_lowest (fun vs H Q E h => ?_) (fun cdv A outer s H vs Q E hr h => ?_)
  · obtain ⟨a, t, b, rfl, hS, hz, kE, kQ⟩ := h
    rfl
  · obtain ⟨a, t, b, rfl, hS, hz, kE, kQ⟩ := h
    refine ⟨_, (pss_cons (ps_expr (pe_call G_see (hr.mono (by decide)) (by rfl) m_see k_see b_see .nil (passes_call (E := E) (takes_of rfl rfl rfl rfl) (fun _ _ _ _ h => h)) (pa_cons (pv 0) pa_nil)))
      (pss_cons (ps_set (i := 1) sc_lowest.nd rfl (Or.inl rfl) (pe_call G_common (hr.mono (by decide)) (by rfl) m_common k_common b_common .nil passL (pa_cons (pe_ix ix_tup (pv 0) pe_int (fun _ _ => rfl)) (pa_cons (pe_ix ix_tup (pv 0) pe_int (fun _ _ => rfl)) pa_nil))))
      (pss_one (ps_ret (pe_tup (pa_cons (pe_op op_fdivP (pe_ix ix_tup (pv 0) pe_int (fun _ _ => rfl)) (pv 1)) (pa_cons (pe_op op_fdivP (pe_ix ix_tup (pv 0) pe_int (fun _ _ => rfl)) (pv 1)) pa_nil))))))), ?_⟩
    refine ⟨_, rfl, a, t, b, rfl, hS, fun c => kE c, fun c => ?_⟩
    have hb : 1 ≤ b := by omega
    have ht : 0 ≤ t := by omega
    have hf := gc_pos (t := t) hb
    have hfz : Sz 9000 (gc t b) := hz.le (by omega) (gc_le hb)
    refine ⟨_, rfl, a, _, 0, _, rfl, rfl, hS, atI_nat (j := 0) rfl, _, rfl, a, _, 1, _, rfl, rfl, hS, atI_nat (j := 1) rfl, t, b, rfl, ht, by omega, ?_⟩
    refine ⟨_, rfl, a, _, 0, _, rfl, rfl, hS, atI_nat (j := 0) rfl, _, rfl, _, _, rfl, rfl, hfz.cd hf, ?_⟩
    refine ⟨_, rfl, a, _, 1, _, rfl, rfl, hS, atI_nat (j := 1) rfl, _, rfl, _, _, rfl, rfl, hfz.cd hf, by show 2 ≤ sizeLine; decide, fun p hp => ?_⟩
    exact kQ c _ p (same_new hp) hp upd_same

abbrev s_see_below : Stmt := topS 8
abbrev N_see_below : List Str := ["fraction"]
theorem sc_see_below : FnScope N_see_below ["fraction"] (defScope s_see_below) := ⟨rfl, rfl, rfl, by decide +kernel, rfl, by decide +kernel, by decide +kernel⟩
def sp_see_below (K : PySem.W.Frag) (e : ErrA) : Sp := fun vs H Q E => ∃ (a : Addr) (t b : Int), vs = [.ref a] ∧ SqT K H a [.int t, .int b] ∧ ((t < 0 ∨ b < 1) → E (.ref e.NoFraction) none H) ∧
  (0 ≤ t → 1 ≤ b → (t < 1 ∨ b ≤ t) → E (.ref e.NotBelow) none H) ∧ (1 ≤ t → t < b → Q .non H)
theorem ok_see_below (D : Stands K mg "see_below" s_see_below) (B : Bi mg) (Er : ErrOk K mg e)
    (h_see : Keeps P w K mg base 1 "see" ["fraction"] (sp_see K e)) : Keeps P w K mg base 2 "see_below" ["fraction"] (sp_see_below K e) := by
  obtain ⟨f, fd, F, mF⟩ := D
  obtain ⟨f_see, fd_see, G_see, b_see, m_see, k_see⟩ := h_see
  have h_NotBelow := Er.NotBelow
  refine ⟨f, fd, ?_, F.binds (ps := ["fraction"]) (fun _ _ _ _ _ _ us hl => match us, hl with | [_], _ => rfl), mF, F.kp⟩
  refine F.okX sc_see_below (fun vs H Q E h => ?_) (fun cdv A outer s H vs Q E hr h => ?_)
  · obtain ⟨a, t, b, rfl, hS, kE, kB, kQ⟩ := h
    rfl
  · obtain ⟨a, t, b, rfl, hS, kE, kB, kQ⟩ := h
    refine ⟨_, (pss_cons (ps_expr (pe_call G_see (hr.mono (by decide)) (by rfl) m_see k_see b_see .nil (passes_call (E := E) (takes_of rfl rfl rfl rfl) (fun _ _ _ _ h => h)) (pa_cons (pv 0) pa_nil)))
      (pss_one (ps_if (PW.pt (pw_or (pt_cmpR op_lt (pe_ix ix_tup (pv 0) pe_int (fun _ _ => rfl)) pe_int (nomark _)) (pw_or1 (pt_cmpR op_ge (pe_ix ix_tup (pv 0) pe_int (fun _ _ => rfl)) (pe_ix ix_tup (pv 0) pe_int (fun _ _ => rfl)) (nomark _))))) (pss_one (ps_raise rfl (takes_of rfl rfl rfl rfl) (pmk_own PySem.F.excBase_ValueError h_NotBelow.x h_NotBelow.g h_NotBelow.k (raises_own h_NotBelow.b h_NotBelow.t) rfl))) pss_nil))), ?_⟩
    refine ⟨_, rfl, a, t, b, rfl, hS, kE, fun g => ?_⟩
    have h0 : 0 ≤ t := by omega
    have hb : 1 ≤ b := by omega
    refine ⟨_, rfl, a, _, 0, _, rfl, rfl, hS, atI_nat (j := 0) rfl, _, _, rfl, rfl, _, rfl, ite2 (fun c => ?_) (fun c => ?_)⟩
    · refine iteT ?_
      exact kB h0 hb (.inl (of_decide_eq_true c))
    · have c0 : ¬ t < 1 := fun z => c (decide_eq_true z)
      refine ⟨_, rfl, a, _, 0, _, rfl, rfl, hS, atI_nat (j := 0) rfl, _, rfl, a, _, 1, _, rfl, rfl, hS, atI_nat (j := 1) rfl, _, _, rfl, rfl, _, rfl, ite2 (fun c => ?_) (fun c => ?_)⟩
      · exact kB h0 hb (.inr (of_decide_eq_true c))
      · have c1 : ¬ b ≤ t := fun z => c (decide_eq_true z)
        exact kQ (by omega) (by omega)

abbrev s_divisors : Stmt := topS 10
abbrev N_divisors : List Str := ["number", "k"]
theorem sc_divisors : FnScope N_divisors ["number"] (defScope s_divisors) := ⟨rfl, rfl, rfl, by decide +kernel, rfl, by decide +kernel, by decide +kernel⟩
def sp_divisors (K : PySem.W.Frag) (_ : ErrA) : Sp := fun vs H Q _ => ∃ n : Nat, vs = [.int n] ∧ 1 ≤ n ∧ n ≤ 1000000 ∧ ∀ H' p, Same H H' → H p = none → H' p = some (.lst ((divs n).map V.int)) → Q (.ref p) H'
theorem ok_divisors (D : Stands K mg "divisors" s_divisors) (B : Bi mg) (Er : ErrOk K mg e) : Keeps P w K mg base 1 "divisors" ["number"] (sp_divisors K e) := by
  obtain ⟨f, fd, F, mF⟩ := D
  refine ⟨f, fd, ?_, F.binds (ps := ["number"]) (fun _ _ _ _ _ _ us hl => match us, hl with | [_], _ => rfl), mF, F.kp⟩
  refine toX (F.ok sc_divisors (fun vs H Q E h => ?_) (fun cdv A outer s H vs Q E hr h => ?_))
  · obtain ⟨n, rfl, h1, h2, q⟩ := h
    rfl
  · obtain ⟨n, rfl, h1, h2, q⟩ := h
    refine ⟨_, (pss_one (ps_ret (pe_lc (own := [("k", 1)]) (g := gName 1) (tt := _) (by rfl) sc_divisors.nd (pi_range2 (by rfl) B.range (pa_cons pe_int (pa_cons (pe_op op_add (pv 0) pe_int) pa_nil))) (blkOk_by (N := N_divisors) (sc := defScope s_divisors) (by decide +kernel)) (fun _ _ _ _ _ => pg_name (i := 1) sc_divisors.nd rfl (Or.inl rfl)) (fun _ _ _ _ _ => (pts_one (pt_cmpR op_eq (pe_op op_mod (pv 0) (pv 1)) pe_int (nomark _)))) (fun _ _ _ _ _ => (pv 1))))), ?_⟩
    refine ⟨_, rfl, _, _, rfl, rfl, _, _, rfl, ⟨by omega, by omega, by omega, by omega⟩, fun D hD => ?_⟩
    refine lc_range (lo := 1) (n := _) (fun i H' => Same H H' ∧ H' D = some (.lst (((upto i).filter fun k => decide ((n : Int) % k = 0)).map V.int))) ⟨same_new hD, upd_same⟩ ?_ ?_
    · rintro i H' hi ⟨hs, he⟩
      refine ⟨rfl, _, rfl, _, rfl, _, _, rfl, rfl, by omega, rfl, _, rfl, ite2 (fun c => ?_) (fun c => ?_)⟩
      · have c := V.int.inj (of_decide_eq_true c)
        refine ⟨_, rfl, _, he, ?_, same_mut hs hD, ?_⟩
        · rw [List.length_map]
          refine szl_lt (Nat.lt_of_le_of_lt (List.length_filter_le _ _) ?_)
          rw [upto_length]
          omega
        · rw [upd_same, upto_succ, fil_yes, List.map_append]
          · exact rfl
          · exact c
      · refine ⟨hs, ?_⟩
        rw [he, upto_succ, fil_no]
        exact fun z => c (decide_eq_true (congrArg V.int z))
    · rintro H' ⟨hs, he⟩
      refine q H' D hs hD ?_
      rw [he]
      have e : ((n : Int) + 1 - 1).toNat = n := by omega
      rw [e] <;> rfl

abbrev s_sums_of : Stmt := topS 11
abbrev N_sums_of : List Str := ["row", "found", "number", "more", "total"]
theorem sc_sums_of : FnScope N_sums_of ["row"] (defScope s_sums_of) := ⟨rfl, rfl, rfl, by decide +kernel, rfl, by decide +kernel, by decide +kernel⟩
def sp_sums_of (K : PySem.W.Frag) (_ : ErrA) : Sp := fun vs H Q _ => ∃ (a : Addr) (row : List Int), vs = [.ref a] ∧ SqL K H a (row.map V.int) ∧ Row 1000 row ∧ row.length ≤ 1000 ∧
  ∀ H' p ds, Same H H' → H p = none → TabsAt H' p (tabs (fun _ => true) row) row.length ds → Q (.ref p) H'
theorem ok_sums_of (D : Stands K mg "sums_of" s_sums_of) (B : Bi mg) (Er : ErrOk K mg e) : Keeps P w K mg base 1 "sums_of" ["row"] (sp_sums_of K e) := by
  obtain ⟨f, fd, F, mF⟩ := D
  refine ⟨f, fd, ?_, F.binds (ps := ["row"]) (fun _ _ _ _ _ _ us hl => match us, hl with | [_], _ => rfl), mF, F.kp⟩
  refine toX (F.ok sc_sums_of (fun vs H Q E h => ?_) (fun cdv A outer s H vs Q E hr h => ?_))
  · obtain ⟨a, row, rfl, hS, hr0, hl, q⟩ := h
    rfl
  · obtain ⟨a, row, rfl, hS, hr0, hl, q⟩ := h
    refine ⟨_, (pss_cons (ps_set (i := 1) sc_sums_of.nd rfl (Or.inl rfl) (pe_lst (pa_cons (pe_disp (pps_cons pe_int pe_bl pps_nil) (by rfl) (by rfl) (fun z => by cases z) (by decide)) pa_nil)))
      (pss_cons (ps_for PassesOwn.never rfl (pi_list (pv 0)) (pg_name (i := 2) sc_sums_of.nd rfl (Or.inl rfl)) (pss_cons (ps_set (i := 3) sc_sums_of.nd rfl (Or.inl rfl) (pe_callTy call_dictD (by rfl) B.dict (by decide +kernel) (pa_cons (pe_ix ix_list (pv 1) (pe_un un_neg pe_int) (fun _ _ => rfl)) pa_nil)))
      (pss_cons (ps_for PassesOwn.never rfl (pi_list (pe_callTy (call_listD rfl) (by rfl) B.list (by decide +kernel) (pa_cons (pe_ix ix_list (pv 1) (pe_un un_neg pe_int) (fun _ _ => rfl)) pa_nil))) (pg_name (i := 4) sc_sums_of.nd rfl (Or.inl rfl)) (pss_one (ps_dput (hu_of hr) (pv 3) (pe_op op_add (pv 4) (pv 2)) pe_bl rfl)))
      (pss_one (ps_expr (pe_bm PySem.F.plainAttrs_list PySem.F.slot_list_append PySem.F.type_list_append mt_append (pv 1) (pa_cons (pv 3) pa_nil)))))))
      (pss_one (ps_ret (pv 1))))), ?_⟩
    refine fun d0 nd0 => ⟨upd_same, [(Sum.inl 0, .bl true)], rfl, by decide, by show 1 ≤ sizeLine; decide, fun F nF => ?_⟩
    have s0 : Same H (upd (upd (upd H d0 (.dK [])) d0 (.dK (mergeK [] [(Sum.inl 0, .bl true)]))) F (.lst [.ref d0])) := same_mut (same_mut (same_new nd0) nd0) ((same_mut (same_new nd0) nd0).free nF)
    have hF : H F = none := (same_mut (same_new (o := .dK []) nd0) nd0 (o := .dK (mergeK [] [(Sum.inl 0, .bl true)]))).free nF
    have t0 : TabsAt (upd (upd (upd H d0 (.dK [])) d0 (.dK (mergeK [] [(Sum.inl 0, .bl true)]))) F (.lst [.ref d0])) F (tabs (fun _ => true) row) 0 [d0] := ⟨upd_same, rfl, fun j d e => by
      have hj : j = 0 := by
        have := lt_of_get e
        exact Nat.lt_one_iff.mp this
      subst hj
      cases e
      rw [upd_ne (ne_of_none upd_same nF), upd_same] <;> rfl⟩
    generalize (upd (upd (upd H d0 (.dK [])) d0 (.dK (mergeK [] [(Sum.inl 0, .bl true)]))) F (.lst [.ref d0])) = H0 at s0 t0
    refine ⟨_, rfl, a, rfl, ⟨_, s0.seq hS⟩, for_list (K := K) (a := a) (xs := row.map V.int) (fun i σ H' => Same H H' ∧ ∃ (ds : List Addr) (v1 v2 v3 : Option V), σ = [some (.ref a), some (.ref F), v1, v2, v3] ∧ TabsAt H' F (tabs (fun _ => true) row) i ds)
      ⟨s0, [d0], none, none, none, rfl, t0⟩ (fun i σ H' _ h => h.1.seq hS) ?_ ?_⟩
    · rintro i y σ H1 hy ⟨s1, ds, v1, v2, v3, rfl, t1⟩
      obtain ⟨n, en, rfl⟩ := of_get_map hy
      have hi := lt_of_get en
      obtain ⟨d, e1, e2⟩ := t1.last
      refine ⟨_, rfl, _, rfl, F, _, _, _, rfl, rfl, SqL.of t1.lst, e1, d, _, rfl, .inl e2, fun M nM => ?_⟩
      have s2 : Same H1 (upd H1 M (.dK (kvI (tabs (fun _ => true) row i)))) := same_new nM
      have eM : (upd H1 M (.dK (kvI (tabs (fun _ => true) row i)))) M = some (.dK (kvI (tabs (fun _ => true) row i))) := upd_same
      generalize (upd H1 M (.dK (kvI (tabs (fun _ => true) row i)))) = H2 at s2 eM
      have t2 := t1.same s2
      refine ⟨_, rfl, _, rfl, F, _, _, _, rfl, rfl, SqL.of t2.lst, e1, d, _, rfl, .inl (s2 _ _ e2), fun L nL => ?_⟩
      rw [kvI_keys]
      have s3 : Same H2 (upd H2 L (.lst ((tabs (fun _ => true) row i).map V.int))) := same_new nL
      have eL : (upd H2 L (.lst ((tabs (fun _ => true) row i).map V.int))) L = some (.lst ((tabs (fun _ => true) row i).map V.int)) := upd_same
      have eM3 := s3 _ _ eM
      have s13 := s2.trans s3
      generalize (upd H2 L (.lst ((tabs (fun _ => true) row i).map V.int))) = H3 at eL eM3 s13
      have LM : L ≠ M := ne_of eL eM3 (fun z => by cases z)
      refine ⟨L, rfl, ⟨_, SqL.of eL⟩, for_list (K := K) (a := L) (xs := (tabs (fun _ => true) row i).map V.int) (fun j σ H' => Same H1 H' ∧ H' L = some (.lst ((tabs (fun _ => true) row i).map V.int)) ∧
        H' M = some (.dK (kvI (addP (fun _ => true) n (tabs (fun _ => true) row i) ((tabs (fun _ => true) row i).take j)))) ∧ ∃ v : Option V, σ = [some (.ref a), some (.ref F), some (.int n), some (.ref M), v])
        ⟨s13, eL, eM3, v3, rfl⟩ (fun j σ H' _ h => SqL.of h.2.1) ?_ ?_⟩
      · rintro j y σ H4 hy ⟨s4, eL4, eM4, v, rfl⟩
        obtain ⟨x, ex, rfl⟩ := of_get_map hy
        refine ⟨_, rfl, _, rfl, _, rfl, _, _, rfl, rfl, M, _, rfl, DPut.k (k := Sum.inl (x + n)) eM4 ?_, ?_⟩
        · rw [kvI_len]
          have := addP_len (p := fun _ => true) (n := n) (ks := tabs (fun _ => true) row i) ((tabs (fun _ => true) row i).take j)
          have h1 := tabs_len (p := fun _ => true) hr0 (k := i) (by omega)
          have h2 : ((tabs (fun _ => true) row i).take j).length ≤ (tabs (fun _ => true) row i).length := by
            rw [List.length_take]
            exact Nat.min_le_right _ _
          exact szl_lt (by omega)
        · refine ⟨same_mut s4 nM, ?_, ?_, _, rfl⟩
          · rw [upd_ne LM]
            exact eL4
          · rw [upd_same, put_kv, take_snoc ex, addP_snoc, if_pos rfl]
      · rintro σ H4 ⟨s4, eL4, eM4, v, rfl⟩
        rw [List.length_map, List.take_length, ← tabs_at en] at eM4
        have t4 := t1.same s4
        refine ⟨_, rfl, .inl ⟨rfl, _, SqL.of t4.lst⟩, _, rfl, F, _, _, rfl, rfl, t4.lst, by
          rw [List.length_map, t4.len]
          exact szl_lt (by omega), ?_⟩
        exact ⟨same_mut (s1.trans s4) hF, ds ++ [M], _, _, _, rfl, t4.push eM4⟩
    · rintro σ H1 ⟨s1, ds, v1, v2, v3, rfl, t1⟩
      rw [List.length_map] at t1
      exact ⟨_, rfl, q H1 F ds s1 hF t1⟩

abbrev s_parts : Stmt := topS 12
abbrev N_parts : List Str := ["number", "wanted", "row", "sums", "found", "k"]
theorem sc_parts : FnScope N_parts ["number", "wanted"] (defScope s_parts) := ⟨rfl, rfl, rfl, by decide +kernel, rfl, by decide +kernel, by decide +kernel⟩
def sp_parts (K : PySem.W.Frag) (_ : ErrA) : Sp := fun vs H Q _ => ∃ (n : Nat) (w : Int), vs = [.int n, .int w] ∧ 1 ≤ n ∧ n ≤ 1000 ∧ 0 ≤ w ∧
  ∀ H', Same H H' → match partsF n w with | none => Q .non H' | some l => ∀ p, H p = none → H' p = some (.lst (l.map V.int)) → Q (.ref p) H'
theorem ok_parts (D : Stands K mg "parts" s_parts) (B : Bi mg) (Er : ErrOk K mg e)
    (h_divisors : Keeps P w K mg base 1 "divisors" ["number"] (sp_divisors K e))
    (h_sums_of : Keeps P w K mg base 1 "sums_of" ["row"] (sp_sums_of K e)) : Keeps P w K mg base 2 "parts" ["number", "wanted"] (sp_parts K e) := by
  obtain ⟨f, fd, F, mF⟩ := D
  obtain ⟨f_divisors, fd_divisors, G_divisors, b_divisors, m_divisors, k_divisors⟩ := h_divisors
  obtain ⟨f_sums_of, fd_sums_of, G_sums_of, b_sums_of, m_sums_of, k_sums_of⟩ := h_sums_of
  refine ⟨f, fd, ?_, F.binds (ps := ["number", "wanted"]) (fun _ _ _ _ _ _ us hl => match us, hl with | [_, _], _ => rfl), mF, F.kp⟩
  refine toX (F.ok sc_parts (fun vs H Q E h => ?_) (fun cdv A outer s H vs Q E hr h => ?_))
  · obtain ⟨n, w, rfl, n1, n2, w0, q⟩ := h
    rfl
  · obtain ⟨n, w, rfl, n1, n2, w0, q⟩ := h
    refine ⟨_, (pss_cons (ps_set (i := 2) sc_parts.nd rfl (Or.inl rfl) (pe_call G_divisors (hr.mono (by decide)) (by rfl) m_divisors k_divisors b_divisors .nil passL (pa_cons (pv 0) pa_nil)))
      (pss_cons (ps_set (i := 3) sc_parts.nd rfl (Or.inl rfl) (pe_call G_sums_of (hr.mono (by decide)) (by rfl) m_sums_of k_sums_of b_sums_of .nil passL (pa_cons (pv 2) pa_nil)))
      (pss_cons (ps_if (pt_cmp (pc_dnotin (hu_of hr) (pv 1) (pe_ix ix_list (pv 3) (pe_un un_neg pe_int) (fun _ _ => rfl)))) (pss_one (ps_ret pe_non)) pss_nil)
      (pss_cons (ps_set (i := 4) sc_parts.nd rfl (Or.inl rfl) (pe_lst pa_nil))
      (pss_cons (ps_for PassesOwn.never rfl (pi_range3 (by rfl) B.range (pa_cons (pe_op op_sub (pe_callB call_len_seq (by rfl) B.len (by decide +kernel) (pa_cons (pv 2) pa_nil)) pe_int) (pa_cons (pe_un un_neg pe_int) (pa_cons (pe_un un_neg pe_int) pa_nil)))) (pg_name (i := 5) sc_parts.nd rfl (Or.inl rfl)) (pss_one (ps_if (PW.pt (pw_and (pt_cmpR op_ge (pv 1) (pe_ix ix_list (pv 2) (pv 5) (fun _ _ => rfl)) (nomark _)) (pw_and1 (pt_cmp (pc_din (hu_of hr) (pe_op op_sub (pv 1) (pe_ix ix_list (pv 2) (pv 5) (fun _ _ => rfl))) (pe_ix ix_list (pv 3) (pv 5) (fun _ _ => rfl))))))) (pss_cons (ps_expr (pe_bm PySem.F.plainAttrs_list PySem.F.slot_list_append PySem.F.type_list_append mt_append (pv 4) (pa_cons (pe_ix ix_list (pv 2) (pv 5) (fun _ _ => rfl)) pa_nil)))
      (pss_one (ps_set (i := 1) sc_parts.nd rfl (Or.inl rfl) (pe_op op_sub (pv 1) (pe_ix ix_list (pv 2) (pv 5) (fun _ _ => rfl)))))) pss_nil)))
      (pss_one (ps_ret (pv 4)))))))), ?_⟩
    have hl := divs_len n
    have hr0 : Row 1000 (divs n) := row_divs (by omega)
    refine ⟨_, rfl, n, rfl, n1, by omega, fun H1 r s1 nr er => ?_⟩
    refine ⟨_, rfl, r, divs n, rfl, SqL.of er, hr0, by omega, fun H2 F ds s2 nF tF => ?_⟩
    obtain ⟨d, e1, e2⟩ := tF.last
    have er2 := s2 _ _ er
    have s12 := s1.trans s2
    refine ⟨_, rfl, _, rfl, _, rfl, F, _, _, _, rfl, rfl, SqL.of tF.lst, e1, d, _, rfl, DGet.k (k := Sum.inl w) e2, _, rfl, ?_⟩
    rw [val_kv]
    by_cases c : w ∈ tabs (fun _ => true) (divs n) (divs n).length
    · rw [decide_eq_true c]
      refine iteF ?_
      refine ⟨Nat.zero_le _, fun G nG => ?_⟩
      have s3 := same_new (o := .lst []) nG
      have hG : H G = none := s12.free nG
      have er3 := s3 _ _ er2
      have tF3 := tF.same s3
      have eG3 : (upd H2 G (.lst [])) G = some (.lst []) := upd_same
      generalize (upd H2 G (.lst [])) = H3 at s3 er3 tF3 eG3
      have rG : r ≠ G := ne_of_none er2 nG
      have FG : F ≠ G := ne_of_none tF.lst nG
      refine ⟨_, rfl, r, _, rfl, .inl (SqL.of er3), _, _, rfl, rfl, _, rfl, _, rfl, _, _, _, _, rfl, RgC.neg (by rw [List.length_map]; omega) (by rw [List.length_map]; omega) (by decide) (by decide), ?_⟩
      have en : (((((divs n).map V.int).length : Nat) : Int) - 1 - -1).toNat = (divs n).length := by
        rw [List.length_map]
        omega
      rw [en]
      refine for_rangeC (n := (divs n).length) (fun i σ H' => Same H2 H' ∧ ∃ (u : Int) (acc : List Int) (v : Option V), σ = [some (.int n), some (.int u), some (.ref r), some (.ref F), some (.ref G), v] ∧ H' G = some (.lst (acc.map V.int)) ∧ acc.length ≤ i ∧
        acc ++ (gr (tabs (fun _ => true) (divs n)) (divs n) ((divs n).length - i) u).1 = (gr (tabs (fun _ => true) (divs n)) (divs n) (divs n).length w).1) ⟨s3, w, [], none, rfl, eG3, Nat.le_refl 0, rfl⟩ ?_ ?_
      · rintro i σ H4 hi ⟨s4, u, acc, v, rfl, eG4, al, eq⟩
        obtain ⟨j, ej⟩ : ∃ j, (divs n).length - i = j + 1 := ⟨(divs n).length - i - 1, by omega⟩
        have ej2 : (divs n).length - (i + 1) = j := by omega
        have hj : j < (divs n).length := by omega
        have ix : ((((divs n).map V.int).length : Nat) : Int) - 1 + (i : Nat) * -1 = (j : Int) := by
          rw [List.length_map]
          omega
        have g0 : (divs n)[j]? = some (divs n)[j] := List.getElem?_eq_getElem hj
        have g : ((divs n).map V.int)[j]? = some (.int (divs n)[j]) := get_map g0
        rw [ej] at eq
        rw [ej2]
        have er4 := s4 _ _ er2
        have tF4 := tF.same s4
        obtain ⟨dj, a1, a2⟩ := tF4.at (j := j) (by omega)
        generalize (divs n)[j] = x at g0 g
        refine ⟨_, rfl, _, rfl, _, rfl, r, _, _, _, rfl, rfl, SqL.of er4, at_of (j := j) ix g, _, _, rfl, rfl, _, rfl, ite2 (fun c1 => ?_) (fun c1 => ?_)⟩
        · have c1 : x ≤ u := of_decide_eq_true c1
          refine ⟨_, rfl, _, rfl, _, rfl, r, _, _, _, rfl, rfl, SqL.of er4, at_of (j := j) ix g, _, _, rfl, rfl, _, rfl, _, rfl, F, _, _, _, rfl, rfl, SqL.of tF4.lst, at_of (j := j) ix a1, dj, _, rfl, DGet.k (k := Sum.inl (u - x)) a2, _, rfl, ?_⟩
          rw [val_kv]
          refine ite2 (fun c2 => ?_) (fun c2 => ?_)
          · have c2 := of_decide_eq_true c2
            rw [gr_yes g0 ⟨c1, c2⟩] at eq
            refine ⟨_, rfl, .inl ⟨rfl, _, SqL.of eG4⟩, _, rfl, _, rfl, r, _, _, _, rfl, rfl, SqL.of er4, at_of (j := j) ix g, G, _, _, rfl, rfl, eG4, by
              rw [List.length_map]
              exact szl_lt (by omega), ?_⟩
            have s5 := same_mut (o := .lst (acc.map V.int ++ [.int x])) s4 nG
            refine ⟨_, rfl, _, rfl, _, rfl, r, _, _, _, rfl, rfl, SqL.of (s5 _ _ er2), at_of (j := j) ix g, _, _, rfl, rfl, s5, u - x, acc ++ [x], _, rfl, ?_, ?_, ?_⟩
            · rw [upd_same, List.map_append] <;> rfl
            · rw [List.length_append, List.length_singleton]
              omega
            · rw [List.append_assoc]
              exact eq
          · have c2 : ¬ u - x ∈ tabs (fun _ => true) (divs n) j := fun z => c2 (decide_eq_true z)
            rw [gr_not g0 (fun z => c2 z.2)] at eq
            exact ⟨s4, u, acc, _, rfl, eG4, by omega, eq⟩
        · have c1 : ¬ x ≤ u := fun z => c1 (decide_eq_true z)
          rw [gr_not g0 (fun z => c1 z.1)] at eq
          exact iteF ⟨s4, u, acc, _, rfl, eG4, by omega, eq⟩
      · rintro σ H4 ⟨s4, u, acc, v, rfl, eG4, al, eq⟩
        rw [Nat.sub_self] at eq
        have eq : acc ++ [] = _ := eq
        rw [List.append_nil] at eq
        have k := q H4 (s12.trans s4)
        rw [show partsF n w = _ from if_pos c] at k
        rw [eq] at eG4
        exact ⟨_, rfl, k G hG eG4⟩
    · rw [decide_eq_false c]
      refine iteT ?_
      have k := q H2 s12
      rw [show partsF n w = _ from if_neg c] at k
      exact k

abbrev s_goes_by : Stmt := topS 13
abbrev N_goes_by : List Str := ["fraction", "most", "told", "m", "found", "part"]
theorem sc_goes_by : FnScope N_goes_by ["fraction", "most"] (defScope s_goes_by) := ⟨rfl, rfl, rfl, by decide +kernel, rfl, by decide +kernel, by decide +kernel⟩
def sp_goes_by (K : PySem.W.Frag) (e : ErrA) : Sp := fun vs H Q E => ∃ (a : Addr) (t b mo : Int), vs = [.ref a, .int mo] ∧ SqT K H a [.int t, .int b] ∧ b ≤ 10000 ∧ 0 ≤ mo ∧ mo ≤ 100000 ∧ ((t < 0 ∨ b < 1) → E (.ref e.NoFraction) none H) ∧
  (0 ≤ t → 1 ≤ b → (t < 1 ∨ b ≤ t) → E (.ref e.NotBelow) none H) ∧
  (1 ≤ t → t < b → ∀ H', Same H H' → (goF (low t b).1 (low t b).2 mo = none → Q .non H') ∧ (∀ m xs, goF (low t b).1 (low t b).2 mo = some (m, xs) → ∀ p L, H p = none → H L = none → p ≠ L → GoAt H' p L m xs → Q (.ref p) H'))
theorem ok_goes_by (D : Stands K mg "goes_by" s_goes_by) (B : Bi mg) (Er : ErrOk K mg e)
    (h_see_below : Keeps P w K mg base 2 "see_below" ["fraction"] (sp_see_below K e))
    (h_lowest : Keeps P w K mg base 2 "lowest" ["fraction"] (sp_lowest K e))
    (h_parts : Keeps P w K mg base 2 "parts" ["number", "wanted"] (sp_parts K e)) : Keeps P w K mg base 3 "goes_by" ["fraction", "most"] (sp_goes_by K e) := by
  obtain ⟨f, fd, F, mF⟩ := D
  obtain ⟨f_see_below, fd_see_below, G_see_below, b_see_below, m_see_below, k_see_below⟩ := h_see_below
  obtain ⟨f_lowest, fd_lowest, G_lowest, b_lowest, m_lowest, k_lowest⟩ := h_lowest
  obtain ⟨f_parts, fd_parts, G_parts, b_parts, m_parts, k_parts⟩ := h_parts
  refine ⟨f, fd, ?_, F.binds (ps := ["fraction", "most"]) (fun _ _ _ _ _ _ us hl => match us, hl with | [_, _], _ => rfl), mF, F.kp⟩
  refine F.okX sc_goes_by (fun vs H Q E h => ?_) (fun cdv A outer s H vs Q E hr h => ?_)
  · obtain ⟨a, t, b, mo, rfl, hS, hb0, m0, m1, kE, kB, q⟩ := h
    rfl
  · obtain ⟨a, t, b, mo, rfl, hS, hb0, m0, m1, kE, kB, q⟩ := h
    refine ⟨_, (pss_cons (ps_expr (pe_call G_see_below (hr.mono (by decide)) (by rfl) m_see_below k_see_below b_see_below .nil (passes_call (E := E) (takes_of rfl rfl rfl rfl) (fun _ _ _ _ h => h)) (pa_cons (pv 0) pa_nil)))
      (pss_cons (ps_set (i := 2) sc_goes_by.nd rfl (Or.inr rfl) (pe_call G_lowest (hr.mono (by decide)) (by rfl) m_lowest k_lowest b_lowest .nil (passes_call (E := E) (takes_of rfl rfl rfl rfl) (fun _ _ _ _ h => h)) (pa_cons (pv 0) pa_nil)))
      (pss_cons (ps_for (passes_of rfl) rfl (pi_range2 (by rfl) B.range (pa_cons pe_int (pa_cons (pe_op op_add (pv 1) pe_int) pa_nil))) (pg_name (i := 3) sc_goes_by.nd rfl (Or.inr rfl)) (pss_cons (ps_if (pt_cmpR op_gt (pe_op op_mulW (pe_ix ix_tup (pv 2) pe_int (fun _ _ => rfl)) (pv 3)) pe_int (nomark _)) (pss_one (ps_ret pe_non)) pss_nil)
      (pss_cons (ps_set (i := 4) sc_goes_by.nd rfl (Or.inl rfl) (pe_call G_parts (hr.mono (by decide)) (by rfl) m_parts k_parts b_parts .nil passL (pa_cons (pe_op op_mulW (pe_ix ix_tup (pv 2) pe_int (fun _ _ => rfl)) (pv 3)) (pa_cons (pe_op op_mulW (pe_ix ix_tup (pv 2) pe_int (fun _ _ => rfl)) (pv 3)) pa_nil))))
      (pss_one (ps_if (pt_cmpR op_notN (pv 4) pe_non (nomark _)) (pss_one (ps_ret (pe_tup (pa_cons (pv 3) (pa_cons (pe_lc (own := [("part", 5)]) (g := gName 5) (tt := tYes) (by rfl) sc_goes_by.nd (pi_list (pv 4)) (blkOk_by (N := N_goes_by) (sc := defScope s_goes_by) (by decide +kernel)) (fun _ _ _ _ _ => pg_name (i := 5) sc_goes_by.nd rfl (Or.inl rfl)) (fun _ _ _ _ _ => pts_nil) (fun _ _ _ _ _ => (pe_op op_fdivP (pe_op op_mulW (pe_ix (r := rIxT K) ix_tup (pv 2) pe_int (fun _ _ => rfl)) (pv 3)) (pv 5)))) pa_nil))))) pss_nil)))))
      (pss_one (ps_ret pe_non))))), ?_⟩
    refine ⟨_, rfl, a, t, b, rfl, hS, kE, kB, fun g1 g2 => ?_⟩
    have hz : Sz 20 b := by
      show b.natAbs < 1048576
      omega
    refine ⟨_, rfl, a, t, b, rfl, hS, hz.mono, fun z => absurd z (by omega), fun _ H1 p s1 np ep => ?_⟩
    have q := q g1 g2
    have b1 : 1 ≤ b := by omega
    have l1 := low_bpos (t := t) b1
    have l2 := low_tnn (t := t) b1 (by omega)
    have l3 := low_ble (t := t) b1
    have l5 := low_tle (b := b) (by omega : 0 ≤ t)
    generalize (low t b).1 = T at *
    generalize (low t b).2 = Bb at *
    refine ⟨_, rfl, _, _, rfl, rfl, _, _, rfl, ⟨by decide, by decide, by omega, by omega⟩, ?_⟩
    have en : (mo + 1 - 1).toNat = mo.toNat := by omega
    rw [en]
    refine for_range (lo := 1) (n := mo.toNat) (fun i σ H' => Same H H' ∧ H' p = some (.tup [.int T, .int Bb]) ∧ goF T Bb mo = goR T Bb (mo.toNat - i) (1 + i) ∧ ∃ v1 v2 : Option V, σ = [some (.ref a), some (.int mo), some (.ref p), v1, v2, none]) ⟨s1, ep, rfl, none, none, rfl⟩ ?_ ?_
    · rintro i σ H2 hi ⟨s2, ep2, eg, v1, v2, rfl⟩
      obtain ⟨j, ej⟩ : ∃ j, mo.toNat - i = j + 1 := ⟨mo.toNat - i - 1, by omega⟩
      have ej2 : mo.toNat - (i + 1) = j := by omega
      rw [ej] at eg
      rw [ej2]
      obtain ⟨m, em⟩ : ∃ m : Int, 1 + (i : Int) = m := ⟨_, rfl⟩
      have em2 : 1 + ((i + 1 : Nat) : Int) = m + 1 := by omega
      rw [em] at eg ⊢
      rw [em2]
      have hm : 1 ≤ m := by omega
      have zm : Sz 20 m := by
        show m.natAbs < 1048576
        omega
      have zB : Sz 20 Bb := by
        show Bb.natAbs < 1048576
        omega
      have zT : Sz 20 T := by
        show T.natAbs < 1048576
        omega
      refine ⟨_, rfl, p, _, 1, _, rfl, rfl, SqT.of ep2, atI_nat (j := 1) rfl, _, rfl, _, _, rfl, rfl, zB.cm zm, _, _, rfl, rfl, _, rfl, ite2 (fun c => ?_) (fun c => ?_)⟩
      · rw [goR_great (of_decide_eq_true c)] at eg
        exact (q H2 s2).1 eg
      · have c : ¬ 1000 < Bb * m := fun z => c (decide_eq_true z)
        have N1 : 1 ≤ Bb * m := Int.mul_pos (by omega) (by omega)
        obtain ⟨n, eN⟩ : ∃ n : Nat, Bb * m = (n : Int) := ⟨(Bb * m).toNat, by omega⟩
        have eN2 : (Bb * m).toNat = n := by omega
        have w0 : 0 ≤ T * m := Int.mul_nonneg l2 (by omega)
        refine ⟨_, rfl, p, _, 1, _, rfl, rfl, SqT.of ep2, atI_nat (j := 1) rfl, _, rfl, _, _, rfl, rfl, zB.cm zm, _, rfl, p, _, 0, _, rfl, rfl, SqT.of ep2, atI_nat (j := 0) rfl, _, rfl, _, _, rfl, rfl, zT.cm zm, n, T * m, go_arg eN, by omega, by omega, w0, fun H3 s3 => ?_⟩
        have ep3 := s3 _ _ ep2
        cases pf : partsF n (T * m) with
        | none =>
          refine ⟨_, rfl, rfl, _, rfl, ?_⟩
          rw [show decide (V.non = V.non) = true from decide_eq_true rfl]
          show if (!true) = true then _ else _
          refine iteF ⟨s2.trans s3, ep3, ?_, _, _, rfl⟩
          rw [eg, goR_none c (by rw [eN2]; exact pf)]
        | some l =>
          refine fun F nF eF => ?_
          refine ⟨_, rfl, rfl, _, rfl, ?_⟩
          rw [show decide (V.ref F = V.non) = false from decide_eq_false fun z => nomatch z]
          show if (!false) = true then _ else _
          refine iteT ?_
          obtain ⟨q1, q2, q3, q4⟩ := partsF_some pf w0
          have ql := divs_len n
          refine ⟨_, rfl, _, rfl, F, rfl, ⟨_, SqL.of eF⟩, fun L nL => ?_⟩
          refine lc_list (K := K) (a := F) (xs := l.map V.int) (fun i H' => Same H3 H' ∧ H' L = some (.lst ((l.take i).map fun x => V.int (Bb * m / x)))) ⟨same_new nL, upd_same⟩ (fun i H' _ h => SqL.of (h.1 _ _ eF)) ?_ ?_
          · rintro i y H4 hy ⟨s4, e4⟩
            obtain ⟨x, ex, rfl⟩ := of_get_map hy
            have hx := mem_divs.mp (q3 x (List.mem_of_getElem? ex))
            have zx : Sz 20 x := by
              show x.natAbs < 1048576
              omega
            refine ⟨rfl, _, rfl, p, _, 1, _, rfl, rfl, SqT.of (s4 _ _ ep3), atI_nat (j := 1) rfl, _, rfl, _, _, rfl, rfl, zB.cm zm, _, rfl, _, _, rfl, rfl, zx.cd (by omega), _, e4, ?_, same_mut s4 nL, ?_⟩
            · rw [List.length_map, List.length_take]
              exact szl_lt (by omega)
            · rw [upd_same, take_snoc ex, List.map_append] <;> rfl
          · rintro H4 ⟨s4, e4⟩
            rw [List.length_map, List.take_length] at e4
            refine ⟨by show 2 ≤ sizeLine; decide, fun r nr => ?_⟩
            have s34 := (s2.trans s3).trans s4
            refine (q _ (s34.trans (same_new nr))).2 m _ (eg.trans (goR_some c (by rw [eN2]; exact pf))) r L (s34.free nr) ((s2.trans s3).free nL) (ne_of_none e4 nr).symm ⟨upd_same, ?_⟩
            rw [upd_ne (ne_of_none e4 nr), e4, List.map_map]
            rfl
    · rintro σ H2 ⟨s2, ep2, eg, v1, v2, rfl⟩
      rw [Nat.sub_self] at eg
      exact (q H2 s2).1 eg

abbrev s_law_cell_at : Stmt := topS 15
abbrev N_law_cell_at : List Str := ["script", "k"]
theorem sc_law_cell_at : FnScope N_law_cell_at ["script", "k"] (defScope s_law_cell_at) := ⟨rfl, rfl, rfl, by decide +kernel, rfl, by decide +kernel, by decide +kernel⟩
/-- script[k], nought beyond the end -/
def cell (ns : List Int) (k : Nat) : Int := ns.getD k 0
theorem cell_arg {a : Addr} {x : Int} {k : Nat} (h : x = k) : [V.ref a, V.int x] = [V.ref a, V.int (k : Int)] := by rw [h]
def sp_law_cell_at (K : PySem.W.Frag) (_ : ErrA) : Sp := fun vs H Q _ => ∃ (a : Addr) (ns : List Int) (k : Nat), vs = [.ref a, .int k] ∧ SqL K H a (ns.map V.int) ∧ ns.length ≤ 63 ∧ Q (.int (cell ns k)) H
theorem ok_law_cell_at (D : Stands K mg "_law_cell_at" s_law_cell_at) (B : Bi mg) (Er : ErrOk K mg e) : Keeps P w K mg base 1 "_law_cell_at" ["script", "k"] (sp_law_cell_at K e) := by
  obtain ⟨f, fd, F, mF⟩ := D
  refine ⟨f, fd, ?_, F.binds (ps := ["script", "k"]) (fun _ _ _ _ _ _ us hl => match us, hl with | [_, _], _ => rfl), mF, F.kp⟩
  refine toX (F.ok sc_law_cell_at (fun vs H Q E h => ?_) (fun cdv A outer s H vs Q E hr h => ?_))
  · obtain ⟨a, ns, k, rfl, hS, hk, q⟩ := h
    rfl
  · obtain ⟨a, ns, k, rfl, hS, hk, q⟩ := h
    refine ⟨_, (pss_cons (ps_if (pt_cmpR op_lt (pv 1) (pe_callB call_len_seq (by rfl) B.len (by decide +kernel) (pa_cons (pv 0) pa_nil)) (nomark _)) (pss_one (ps_ret (pe_ix ix_list (pv 0) (pv 1) (fun _ _ => rfl)))) pss_nil)
      (pss_one (ps_ret pe_int))), ?_⟩
    refine ⟨_, rfl, _, rfl, a, _, rfl, .inl hS, _, _, rfl, rfl, _, rfl, ite2 (fun c => ?_) (fun c => ?_)⟩
    · have c := of_decide_eq_true c
      rw [List.length_map] at c
      have hl : k < ns.length := by omega
      have g : ns[k]? = some (cell ns k) := by
        unfold cell
        rw [List.getD_eq_getElem?_getD, List.getElem?_eq_getElem hl] <;> rfl
      exact ⟨_, rfl, _, rfl, a, _, _, _, rfl, rfl, hS, atI_nat (get_map g), q⟩
    · have z : cell ns k = 0 := by
        unfold cell
        rw [List.getD_eq_getElem?_getD, List.getElem?_eq_none] <;> first | rfl | skip
        have c : ¬ ((k : Int) < ((ns.map V.int).length : Int)) := fun z => c (decide_eq_true z)
        rw [List.length_map] at c
        omega
      rw [z] at q
      exact q

abbrev s_law_whole : Stmt := topS 16
abbrev N_law_whole : List Str := ["found"]
theorem sc_law_whole : FnScope N_law_whole ["found"] (defScope s_law_whole) := ⟨rfl, rfl, rfl, by decide +kernel, rfl, by decide +kernel, by decide +kernel⟩
def sp_law_whole (K : PySem.W.Frag) (_ : ErrA) : Sp := fun vs H Q _ => ∃ i : Int, vs = [.int i] ∧ Q (.bl true) H
theorem ok_law_whole (D : Stands K mg "_law_whole" s_law_whole) (B : Bi mg) (Er : ErrOk K mg e) : Keeps P w K mg base 1 "_law_whole" ["found"] (sp_law_whole K e) := by
  obtain ⟨f, fd, F, mF⟩ := D
  refine ⟨f, fd, ?_, F.binds (ps := ["found"]) (fun _ _ _ _ _ _ us hl => match us, hl with | [_], _ => rfl), mF, F.kp⟩
  refine toX (F.ok sc_law_whole (fun vs H Q E h => ?_) (fun cdv A outer s H vs Q E hr h => ?_))
  · obtain ⟨i, rfl, q⟩ := h
    rfl
  · obtain ⟨i, rfl, q⟩ := h
    refine ⟨_, (pss_one (ps_ret (pe_and (pe_callB call_isi (by rfl) B.isinstance (by decide +kernel) (pa_cons (pv 0) (pa_cons (pe_bltn (v := .ty "int") (by rfl) B.int (by decide +kernel) rfl) pa_nil))) (pe_one (pe_not (pe_callB call_isi (by rfl) B.isinstance (by decide +kernel) (pa_cons (pv 0) (pa_cons (pe_bltn (v := .ty "bool") (by rfl) B.bool (by decide +kernel) rfl) pa_nil)))))))), ?_⟩
    refine ⟨_, rfl, _, _, _, _, true, rfl, .ty "int", .base (.int i), kit_ty (by decide +kernel), true, rfl, iteT ?_⟩
    exact ⟨_, rfl, _, _, _, _, false, rfl, .ty "bool", .base (.int i), kit_ty (by decide +kernel), false, rfl, q⟩

abbrev s_law_common : Stmt := topS 17
abbrev N_law_common : List Str := ["one", "other", "rest"]
theorem sc_law_common : FnScope N_law_common ["one", "other"] (defScope s_law_common) := ⟨rfl, rfl, rfl, by decide +kernel, rfl, by decide +kernel, by decide +kernel⟩
def sp_law_common (K : PySem.W.Frag) (_ : ErrA) : Sp := fun vs H Q _ => ∃ x y : Int, vs = [.int x, .int y] ∧ 0 ≤ x ∧ 0 ≤ y ∧ Q (.int (gc x y)) H
theorem ok_law_common (D : Stands K mg "_law_common" s_law_common) (B : Bi mg) (Er : ErrOk K mg e) : Keeps P w K mg base 1 "_law_common" ["one", "other"] (sp_law_common K e) := by
  obtain ⟨f, fd, F, mF⟩ := D
  refine ⟨f, fd, ?_, F.binds (ps := ["one", "other"]) (fun _ _ _ _ _ _ us hl => match us, hl with | [_, _], _ => rfl), mF, F.kp⟩
  refine toX (F.ok sc_law_common (fun vs H Q E h => ?_) (fun cdv A outer s H vs Q E hr h => ?_))
  · obtain ⟨x, y, rfl, hx, hy, q⟩ := h
    rfl
  · obtain ⟨x, y, rfl, hx, hy, q⟩ := h
    refine ⟨_, (pss_cons (ps_while PassesOwn.never (pt_cmpR op_gt (pv 1) pe_int (nomark _)) (pss_cons (ps_set (i := 2) sc_law_common.nd rfl (Or.inl rfl) (pe_op op_mod (pv 0) (pv 1)))
      (pss_cons (ps_set (i := 0) sc_law_common.nd rfl (Or.inl rfl) (pv 1))
      (pss_one (ps_set (i := 1) sc_law_common.nd rfl (Or.inl rfl) (pv 2))))))
      (pss_one (ps_ret (pv 0)))), ?_⟩
    refine while_by (fun σ H' => H' = H ∧ ∃ (u v : Int) (r : Option V), σ = [some (.int u), some (.int v), r] ∧ 0 ≤ u ∧ 0 ≤ v ∧ gc u v = gc x y)
      (fun σ _ => match σ with | [_, some (.int v), _] => v.toNat | _ => 0) ⟨rfl, x, y, none, rfl, hx, hy, rfl⟩ ?_ ?_
    · rintro σ H' ⟨rfl, u, v, r, rfl, hu, hv, hg⟩
      refine ⟨_, rfl, _, _, rfl, rfl, _, rfl, ite2 (fun c => ?_) (fun c => ?_)⟩
      · have c := of_decide_eq_true c
        have m1 := Int.emod_nonneg u (b := v) (by omega)
        have m2 := Int.emod_lt_of_pos u c
        refine ⟨_, rfl, _, rfl, _, _, rfl, rfl, c, _, rfl, _, rfl, ⟨rfl, v, u % v, _, rfl, hv, m1, gc_step.trans hg⟩, ?_⟩
        show (u % v).toNat < v.toNat
        omega
      · have c : ¬ 0 < v := fun z => c (decide_eq_true z)
        have v0 : v = 0 := by omega
        subst v0
        rw [gc_zero hu] at hg
        refine ⟨_, rfl, ?_⟩
        rw [hg]
        exact q
    · rintro σ H' Q1 Q2 hq ⟨v, e1, i, j, e2, e3, k, e4, e5⟩
      exact ⟨v, e1, i, j, e2, e3, k, e4, hq _ _ e5⟩

abbrev s_law_lowest : Stmt := topS 18
abbrev N_law_lowest : List Str := ["top", "bottom", "far"]
theorem sc_law_lowest : FnScope N_law_lowest ["top", "bottom"] (defScope s_law_lowest) := ⟨rfl, rfl, rfl, by decide +kernel, rfl, by decide +kernel, by decide +kernel⟩
def sp_law_lowest (K : PySem.W.Frag) (_ : ErrA) : Sp := fun vs H Q _ => ∃ t b : Int, vs = [.int t, .int b] ∧ 0 ≤ t ∧ 1 ≤ b ∧ CDivP t (gc t b) ∧ CDivP b (gc t b) ∧
  ∀ H' p, Same H H' → H p = none → H' p = some (.tup [.int (low t b).1, .int (low t b).2]) → Q (.ref p) H'
theorem ok_law_lowest (D : Stands K mg "_law_lowest" s_law_lowest) (B : Bi mg) (Er : ErrOk K mg e)
    (h_law_common : Keeps P w K mg base 1 "_law_common" ["one", "other"] (sp_law_common K e)) : Keeps P w K mg base 2 "_law_lowest" ["top", "bottom"] (sp_law_lowest K e) := by
  obtain ⟨f, fd, F, mF⟩ := D
  obtain ⟨f_law_common, fd_law_common, G_law_common, b_law_common, m_law_common, k_law_common⟩ := h_law_common
  refine ⟨f, fd, ?_, F.binds (ps := ["top", "bottom"]) (fun _ _ _ _ _ _ us hl => match us, hl with | [_, _], _ => rfl), mF, F.kp⟩
  refine toX (F.ok sc_law_lowest (fun vs H Q E h => ?_) (fun cdv A outer s H vs Q E hr h => ?_))
  · obtain ⟨t, b, rfl, ht, hb, d1, d2, q⟩ := h
    rfl
  · obtain ⟨t, b, rfl, ht, hb, d1, d2, q⟩ := h
    refine ⟨_, (pss_cons (ps_set (i := 2) sc_law_lowest.nd rfl (Or.inl rfl) (pe_call G_law_common (hr.mono (by decide)) (by rfl) m_law_common k_law_common b_law_common .nil passL (pa_cons (pv 0) (pa_cons (pv 1) pa_nil))))
      (pss_one (ps_ret (pe_tup (pa_cons (pe_op op_fdivP (pv 0) (pv 2)) (pa_cons (pe_op op_fdivP (pv 1) (pv 2)) pa_nil)))))), ?_⟩
    have hf := gc_pos (t := t) hb
    refine ⟨_, rfl, _, rfl, t, b, rfl, ht, by omega, ?_⟩
    refine ⟨_, rfl, _, rfl, _, _, rfl, rfl, d1, _, rfl, _, rfl, _, _, rfl, rfl, d2, by show 2 ≤ sizeLine; decide, fun p hp => ?_⟩
    exact q _ p (same_new hp) hp upd_same

abbrev s_law_sum : Stmt := topS 19
abbrev N_law_sum : List Str := ["shares", "top", "bottom", "share"]
theorem sc_law_sum : FnScope N_law_sum ["shares"] (defScope s_law_sum) := ⟨rfl, rfl, rfl, by decide +kernel, rfl, by decide +kernel, by decide +kernel⟩
def sp_law_sum (K : PySem.W.Frag) (_ : ErrA) : Sp := fun vs H Q _ => ∃ (a : Addr) (xs : List Int), vs = [.ref a] ∧ SqL K H a (xs.map V.int) ∧ SumC xs ∧
  ∀ H' p, Same H H' → H p = none → H' p = some (.tup [.int (lowS xs).1, .int (lowS xs).2]) → Q (.ref p) H'
theorem ok_law_sum (D : Stands K mg "_law_sum" s_law_sum) (B : Bi mg) (Er : ErrOk K mg e)
    (h_law_lowest : Keeps P w K mg base 2 "_law_lowest" ["top", "bottom"] (sp_law_lowest K e)) : Keeps P w K mg base 3 "_law_sum" ["shares"] (sp_law_sum K e) := by
  obtain ⟨f, fd, F, mF⟩ := D
  obtain ⟨f_law_lowest, fd_law_lowest, G_law_lowest, b_law_lowest, m_law_lowest, k_law_lowest⟩ := h_law_lowest
  refine ⟨f, fd, ?_, F.binds (ps := ["shares"]) (fun _ _ _ _ _ _ us hl => match us, hl with | [_], _ => rfl), mF, F.kp⟩
  refine toX (F.ok sc_law_sum (fun vs H Q E h => ?_) (fun cdv A outer s H vs Q E hr h => ?_))
  · obtain ⟨a, xs, rfl, hS, ok, q⟩ := h
    rfl
  · obtain ⟨a, xs, rfl, hS, ok, q⟩ := h
    refine ⟨_, (pss_cons (ps_set (i := 1) sc_law_sum.nd rfl (Or.inl rfl) pe_int)
      (pss_cons (ps_set (i := 2) sc_law_sum.nd rfl (Or.inl rfl) pe_int)
      (pss_cons (ps_for PassesOwn.never rfl (pi_list (pv 0)) (pg_name (i := 3) sc_law_sum.nd rfl (Or.inl rfl)) (pss_cons (ps_set (i := 1) sc_law_sum.nd rfl (Or.inl rfl) (pe_op op_add (pe_op op_mulW (pv 1) (pv 3)) (pv 2)))
      (pss_one (ps_set (i := 2) sc_law_sum.nd rfl (Or.inl rfl) (pe_op op_mulW (pv 2) (pv 3))))))
      (pss_one (ps_ret (pe_call G_law_lowest (hr.mono (by decide)) (by rfl) m_law_lowest k_law_lowest b_law_lowest .nil passL (pa_cons (pv 1) (pa_cons (pv 2) pa_nil)))))))), ?_⟩
    refine ⟨_, rfl, a, rfl, ⟨_, hS⟩, for_list (K := K) (a := a) (xs := xs.map V.int) (fun i σ H' => H' = H ∧ ∃ v : Option V, σ = [some (.ref a), some (.int (sumS (xs.take i)).1), some (.int (sumS (xs.take i)).2), v])
      ⟨rfl, none, rfl⟩ (fun i σ H' _ h => h.1 ▸ hS) ?_ ?_⟩
    · rintro i y σ H' hy ⟨rfl, v, rfl⟩
      obtain ⟨s, es, rfl⟩ := of_get_map hy
      obtain ⟨m1, m2⟩ := ok.step es
      refine ⟨_, rfl, _, rfl, _, _, rfl, rfl, m1, _, rfl, _, _, rfl, rfl, _, rfl, _, rfl, _, _, rfl, rfl, m2, rfl, some (.int s), ?_⟩
      rw [take_snoc es, sumS_snoc] <;> rfl
    · rintro σ H' ⟨rfl, v, rfl⟩
      rw [List.length_map, List.take_length]
      obtain ⟨a1, a2, a3⟩ := sumS_pos _ ok.pos
      exact ⟨_, rfl, _, rfl, _, _, rfl, a1, a2, ok.d1, ok.d2, fun H' p s hp e => q H' p s hp e⟩

abbrev s_law_list : Stmt := topS 21
abbrev N_law_list : List Str := ["found", "due", "k"]
theorem sc_law_list : FnScope N_law_list ["found", "due"] (defScope s_law_list) := ⟨rfl, rfl, rfl, by decide +kernel, rfl, by decide +kernel, by decide +kernel⟩
/-- two lists of the same ints -/
def sp_law_list (K : PySem.W.Frag) (_ : ErrA) : Sp := fun vs H Q _ => ∃ (a b : Addr) (xs : List Int), vs = [.ref a, .ref b] ∧ SqL K H a (xs.map V.int) ∧ SqL K H b (xs.map V.int) ∧ xs.length ≤ 1000000 ∧ Q (.bl true) H
theorem ok_law_list (D : Stands K mg "_law_list" s_law_list) (B : Bi mg) (Er : ErrOk K mg e)
    (h_law_whole : Keeps P w K mg base 1 "_law_whole" ["found"] (sp_law_whole K e)) : Keeps P w K mg base 2 "_law_list" ["found", "due"] (sp_law_list K e) := by
  obtain ⟨f, fd, F, mF⟩ := D
  obtain ⟨f_law_whole, fd_law_whole, G_law_whole, b_law_whole, m_law_whole, k_law_whole⟩ := h_law_whole
  refine ⟨f, fd, ?_, F.binds (ps := ["found", "due"]) (fun _ _ _ _ _ _ us hl => match us, hl with | [_, _], _ => rfl), mF, F.kp⟩
  refine toX (F.ok sc_law_list (fun vs H Q E h => ?_) (fun cdv A outer s H vs Q E hr h => ?_))
  · obtain ⟨a, b, xs, rfl, hA, hB, hl, q⟩ := h
    rfl
  · obtain ⟨a, b, xs, rfl, hA, hB, hl, q⟩ := h
    refine ⟨_, (pss_cons (ps_if (PW.pt (pw_or (pt_not (pt_val (pe_callB call_isi (by rfl) B.isinstance (by decide +kernel) (pa_cons (pv 0) (pa_cons (pe_bltn (v := .ty "list") (by rfl) B.list (by decide +kernel) rfl) pa_nil))))) (pw_or1 (pt_cmpR op_ne (pe_callB call_len_seq (by rfl) B.len (by decide +kernel) (pa_cons (pv 0) pa_nil)) (pe_callB call_len_seq (by rfl) B.len (by decide +kernel) (pa_cons (pv 1) pa_nil)) (nomark _))))) (pss_one (ps_ret pe_bl)) pss_nil)
      (pss_cons (ps_for PassesOwn.never rfl (pi_range1 (by rfl) B.range (pa_cons (pe_callB call_len_seq (by rfl) B.len (by decide +kernel) (pa_cons (pv 1) pa_nil)) pa_nil)) (pg_name (i := 2) sc_law_list.nd rfl (Or.inl rfl)) (pss_one (ps_if (PW.pt (pw_or (pt_not (pt_val (pe_call G_law_whole (hr.mono (by decide)) (by rfl) m_law_whole k_law_whole b_law_whole .nil passL (pa_cons (pe_ix ix_list (pv 0) (pv 2) (fun _ _ => rfl)) pa_nil)))) (pw_or1 (pt_cmpR op_ne (pe_ix ix_list (pv 0) (pv 2) (fun _ _ => rfl)) (pe_ix ix_list (pv 1) (pv 2) (fun _ _ => rfl)) (nomark _))))) (pss_one (ps_ret pe_bl)) pss_nil)))
      (pss_one (ps_ret pe_bl)))), ?_⟩
    refine ⟨_, rfl, _, _, _, _, true, rfl, .ty "list", ty_list hA, kit_ty (by decide +kernel), true, rfl, ?_⟩
    show if (!true) = true then _ else _
    refine iteF ?_
    refine ⟨_, rfl, a, _, rfl, .inl hA, _, rfl, b, _, rfl, .inl hB, rfl, _, rfl, ?_⟩
    rw [decide_eq_true rfl]
    refine iteF ?_
    refine ⟨_, rfl, b, _, rfl, .inl hB, _, rfl, by omega, by rw [List.length_map]; omega, ?_⟩
    refine for_range (lo := 0) (n := _) (fun i σ H' => ∃ v : Option V, σ = [some (.ref a), some (.ref b), v] ∧ H' = H) ⟨none, rfl, rfl⟩ ?_ ?_
    · rintro i σ H' hi ⟨v, rfl, rfl⟩
      have hi : i < xs.length := by
        rw [List.length_map] at hi
        omega
      have g : (xs.map V.int)[i]? = some (.int xs[i]) := get_map (List.getElem?_eq_getElem hi)
      have e0 : (0 : Int) + (i : Int) = (i : Int) := by omega
      refine ⟨_, rfl, _, rfl, a, _, _, _, rfl, rfl, hA, by rw [e0]; exact atI_nat g, _, rfl, true, rfl, ?_⟩
      show if (!true) = true then _ else _
      refine iteF ?_
      refine ⟨_, rfl, _, rfl, a, _, _, _, rfl, rfl, hA, by rw [e0]; exact atI_nat g, _, rfl, _, rfl, b, _, _, _, rfl, rfl, hB, by rw [e0]; exact atI_nat g, rfl, _, rfl, ?_⟩
      rw [decide_eq_true rfl]
      exact iteF ⟨_, rfl, rfl⟩
    · rintro σ H' ⟨v, rfl, rfl⟩
      exact q

abbrev s_law_parts : Stmt := topS 23
abbrev N_law_parts : List Str := ["number", "wanted", "row", "tables", "part", "more", "total", "found", "k"]
theorem sc_law_parts : FnScope N_law_parts ["number", "wanted"] (defScope s_law_parts) := ⟨rfl, rfl, rfl, by decide +kernel, rfl, by decide +kernel, by decide +kernel⟩
def sp_law_parts (K : PySem.W.Frag) (_ : ErrA) : Sp := fun vs H Q _ => ∃ (n : Nat) (w : Int), vs = [.int n, .int w] ∧ 1 ≤ n ∧ n ≤ 1000 ∧ 0 ≤ w ∧
  ∀ H', Same H H' → match partsF n w with | none => Q .non H' | some l => ∀ p, H p = none → H' p = some (.lst (l.map V.int)) → Q (.ref p) H'
theorem ok_law_parts (D : Stands K mg "_law_parts" s_law_parts) (B : Bi mg) (Er : ErrOk K mg e) : Keeps P w K mg base 1 "_law_parts" ["number", "wanted"] (sp_law_parts K e) := by
  obtain ⟨f, fd, F, mF⟩ := D
  refine ⟨f, fd, ?_, F.binds (ps := ["number", "wanted"]) (fun _ _ _ _ _ _ us hl => match us, hl with | [_, _], _ => rfl), mF, F.kp⟩
  refine toX (F.ok sc_law_parts (fun vs H Q E h => ?_) (fun cdv A outer s H vs Q E hr h => ?_))
  · obtain ⟨n, w, rfl, n1, n2, w0, q⟩ := h
    rfl
  · obtain ⟨n, w, rfl, n1, n2, w0, q⟩ := h
    refine ⟨_, (pss_cons (ps_setLc (i := 2) (own := [("k", 8)]) (g := gName 8) (tt := _) (by rfl) sc_law_parts.nd rfl rfl (sw_true rfl rfl rfl (by decide +kernel)) (pi_range2 (by rfl) B.range (pa_cons pe_int (pa_cons (pe_op op_add (pv 0) pe_int) pa_nil))) (blkOk_by (N := N_law_parts) (sc := defScope s_law_parts) (by decide +kernel)) (fun _ _ _ _ _ => pg_name (i := 8) sc_law_parts.nd rfl (Or.inl rfl)) (fun _ _ _ _ _ => (pts_one (pt_cmpR op_eq (pe_op op_mod (pv 0) (pv 8)) pe_int (nomark _)))) (fun _ _ _ _ _ => (pv 8)))
      (pss_cons (ps_set (i := 3) sc_law_parts.nd rfl (Or.inl rfl) (pe_lst (pa_cons (pe_disp (pps_cons pe_int pe_bl pps_nil) (by rfl) (by rfl) (fun z => by cases z) (by decide)) pa_nil)))
      (pss_cons (ps_for PassesOwn.never rfl (pi_list (pv 2)) (pg_name (i := 4) sc_law_parts.nd rfl (Or.inl rfl)) (pss_cons (ps_set (i := 5) sc_law_parts.nd rfl (Or.inl rfl) (pe_callTy call_dictD (by rfl) B.dict (by decide +kernel) (pa_cons (pe_ix ix_list (pv 3) (pe_un un_neg pe_int) (fun _ _ => rfl)) pa_nil)))
      (pss_cons (ps_for PassesOwn.never rfl (pi_list (pe_callTy (call_listD rfl) (by rfl) B.list (by decide +kernel) (pa_cons (pe_ix ix_list (pv 3) (pe_un un_neg pe_int) (fun _ _ => rfl)) pa_nil))) (pg_name (i := 6) sc_law_parts.nd rfl (Or.inl rfl)) (pss_one (ps_if (pt_cmpR op_le (pe_op op_add (pv 6) (pv 4)) (pv 1) (nomark _)) (pss_one (ps_dput (hu_of hr) (pv 5) (pe_op op_add (pv 6) (pv 4)) pe_bl rfl)) pss_nil)))
      (pss_one (ps_expr (pe_bm PySem.F.plainAttrs_list PySem.F.slot_list_append PySem.F.type_list_append mt_append (pv 3) (pa_cons (pv 5) pa_nil)))))))
      (pss_cons (ps_set (i := 7) sc_law_parts.nd rfl (Or.inl rfl) (pe_lst pa_nil))
      (pss_cons (ps_for PassesOwn.never rfl (pi_range3 (by rfl) B.range (pa_cons (pe_op op_sub (pe_callB call_len_seq (by rfl) B.len (by decide +kernel) (pa_cons (pv 2) pa_nil)) pe_int) (pa_cons (pe_un un_neg pe_int) (pa_cons (pe_un un_neg pe_int) pa_nil)))) (pg_name (i := 8) sc_law_parts.nd rfl (Or.inl rfl)) (pss_one (ps_if (PW.pt (pw_and (pt_cmpR op_ge (pv 1) (pe_ix ix_list (pv 2) (pv 8) (fun _ _ => rfl)) (nomark _)) (pw_and1 (pt_cmp (pc_din (hu_of hr) (pe_op op_sub (pv 1) (pe_ix ix_list (pv 2) (pv 8) (fun _ _ => rfl))) (pe_ix ix_list (pv 3) (pv 8) (fun _ _ => rfl))))))) (pss_cons (ps_expr (pe_bm PySem.F.plainAttrs_list PySem.F.slot_list_append PySem.F.type_list_append mt_append (pv 7) (pa_cons (pe_ix ix_list (pv 2) (pv 8) (fun _ _ => rfl)) pa_nil)))
      (pss_one (ps_set (i := 1) sc_law_parts.nd rfl (Or.inl rfl) (pe_op op_sub (pv 1) (pe_ix ix_list (pv 2) (pv 8) (fun _ _ => rfl)))))) pss_nil)))
      (pss_cons (ps_if (pt_cmpR op_gt (pv 1) pe_int (nomark _)) (pss_one (ps_ret pe_non)) pss_nil)
      (pss_one (ps_ret (pv 7))))))))), ?_⟩
    have hl := divs_len n
    have hr0 : Row 1000 (divs n) := row_divs (by omega)
    refine ⟨_, rfl, _, _, rfl, rfl, _, _, rfl, ⟨by omega, by omega, by omega, by omega⟩, fun D hD => ?_⟩
    refine lc_range (lo := 1) (n := _) (fun i H' => Same H H' ∧ H' D = some (.lst (((upto i).filter fun k => decide ((n : Int) % k = 0)).map V.int))) ⟨same_new hD, upd_same⟩ ?_ ?_
    · rintro i H' hi ⟨hs, he⟩
      refine ⟨rfl, _, rfl, _, rfl, _, _, rfl, rfl, by omega, rfl, _, rfl, ite2 (fun c => ?_) (fun c => ?_)⟩
      · have c := V.int.inj (of_decide_eq_true c)
        refine ⟨_, rfl, _, he, ?_, same_mut hs hD, ?_⟩
        · rw [List.length_map]
          refine szl_lt (Nat.lt_of_le_of_lt (List.length_filter_le _ _) ?_)
          rw [upto_length]
          omega
        · rw [upd_same, upto_succ, fil_yes, List.map_append]
          · exact rfl
          · exact c
      · refine ⟨hs, ?_⟩
        rw [he, upto_succ, fil_no]
        exact fun z => c (decide_eq_true (congrArg V.int z))
    rintro H1 ⟨s1, er⟩
    have e0 : ((n : Int) + 1 - 1).toNat = n := by omega
    rw [e0] at er
    have er : H1 D = some (.lst ((divs n).map V.int)) := er
    dsimp only
    refine fun d0 nd0 => ⟨upd_same, [(Sum.inl 0, .bl true)], rfl, by decide, by show 1 ≤ sizeLine; decide, fun F nF => ?_⟩
    have s0 : Same H1 (upd (upd (upd H1 d0 (.dK [])) d0 (.dK (mergeK [] [(Sum.inl 0, .bl true)]))) F (.lst [.ref d0])) := same_mut (same_mut (same_new nd0) nd0) ((same_mut (same_new nd0) nd0).free nF)
    have hF : H1 F = none := (same_mut (same_new (o := .dK []) nd0) nd0 (o := .dK (mergeK [] [(Sum.inl 0, .bl true)]))).free nF
    have t0 : TabsAt (upd (upd (upd H1 d0 (.dK [])) d0 (.dK (mergeK [] [(Sum.inl 0, .bl true)]))) F (.lst [.ref d0])) F (tabs (fun x => decide (x ≤ w)) (divs n)) 0 [d0] := ⟨upd_same, rfl, fun j d e => by
      have hj : j = 0 := by
        have := lt_of_get e
        exact Nat.lt_one_iff.mp this
      subst hj
      cases e
      rw [upd_ne (ne_of_none upd_same nF), upd_same] <;> rfl⟩
    generalize (upd (upd (upd H1 d0 (.dK [])) d0 (.dK (mergeK [] [(Sum.inl 0, .bl true)]))) F (.lst [.ref d0])) = H0 at s0 t0
    refine ⟨_, rfl, D, rfl, ⟨_, SqL.of (s0 _ _ er)⟩, for_list (K := K) (a := D) (xs := (divs n).map V.int) (fun i σ H' => Same H1 H' ∧ ∃ (ds : List Addr) (v1 v2 v3 : Option V), σ = [some (.int n), some (.int w), some (.ref D), some (.ref F), v1, v2, v3, none, none] ∧ TabsAt H' F (tabs (fun x => decide (x ≤ w)) (divs n)) i ds)
      ⟨s0, [d0], none, none, none, rfl, t0⟩ (fun i σ H' _ h => SqL.of (h.1 _ _ er)) ?_ ?_⟩
    · rintro i y σ H2 hy ⟨s2, ds, v1, v2, v3, rfl, t1⟩
      obtain ⟨x, en, rfl⟩ := of_get_map hy
      have hi := lt_of_get en
      obtain ⟨d, e1, e2⟩ := t1.last
      refine ⟨_, rfl, _, rfl, F, _, _, _, rfl, rfl, SqL.of t1.lst, e1, d, _, rfl, .inl e2, fun M nM => ?_⟩
      have s3 : Same H2 (upd H2 M (.dK (kvI (tabs (fun x => decide (x ≤ w)) (divs n) i)))) := same_new nM
      have eM : (upd H2 M (.dK (kvI (tabs (fun x => decide (x ≤ w)) (divs n) i)))) M = some (.dK (kvI (tabs (fun x => decide (x ≤ w)) (divs n) i))) := upd_same
      generalize (upd H2 M (.dK (kvI (tabs (fun x => decide (x ≤ w)) (divs n) i)))) = H3 at s3 eM
      have t2 := t1.same s3
      refine ⟨_, rfl, _, rfl, F, _, _, _, rfl, rfl, SqL.of t2.lst, e1, d, _, rfl, .inl (s3 _ _ e2), fun L nL => ?_⟩
      rw [kvI_keys]
      have s4 : Same H3 (upd H3 L (.lst ((tabs (fun x => decide (x ≤ w)) (divs n) i).map V.int))) := same_new nL
      have eL : (upd H3 L (.lst ((tabs (fun x => decide (x ≤ w)) (divs n) i).map V.int))) L = some (.lst ((tabs (fun x => decide (x ≤ w)) (divs n) i).map V.int)) := upd_same
      have eM3 := s4 _ _ eM
      have s13 := s3.trans s4
      generalize (upd H3 L (.lst ((tabs (fun x => decide (x ≤ w)) (divs n) i).map V.int))) = H4 at eL eM3 s13
      have LM : L ≠ M := ne_of eL eM3 (fun z => by cases z)
      refine ⟨L, rfl, ⟨_, SqL.of eL⟩, for_list (K := K) (a := L) (xs := (tabs (fun x => decide (x ≤ w)) (divs n) i).map V.int) (fun j σ H' => Same H2 H' ∧ H' L = some (.lst ((tabs (fun x => decide (x ≤ w)) (divs n) i).map V.int)) ∧
        H' M = some (.dK (kvI (addP (fun x => decide (x ≤ w)) x (tabs (fun x => decide (x ≤ w)) (divs n) i) ((tabs (fun x => decide (x ≤ w)) (divs n) i).take j)))) ∧ ∃ v : Option V, σ = [some (.int n), some (.int w), some (.ref D), some (.ref F), some (.int x), some (.ref M), v, none, none])
        ⟨s13, eL, eM3, v3, rfl⟩ (fun j σ H' _ h => SqL.of h.2.1) ?_ ?_⟩
      · rintro j y σ H5 hy ⟨s5, eL5, eM5, v, rfl⟩
        obtain ⟨t, ex, rfl⟩ := of_get_map hy
        refine ⟨_, rfl, _, rfl, _, _, rfl, rfl, _, rfl, _, _, rfl, rfl, _, rfl, ite2 (fun c => ?_) (fun c => ?_)⟩
        · refine ⟨_, rfl, _, rfl, _, rfl, _, _, rfl, rfl, M, _, rfl, DPut.k (k := Sum.inl (t + x)) eM5 ?_, ?_⟩
          · rw [kvI_len]
            have := addP_len (p := fun x => decide (x ≤ w)) (n := x) (ks := tabs (fun x => decide (x ≤ w)) (divs n) i) ((tabs (fun x => decide (x ≤ w)) (divs n) i).take j)
            have h1 := tabs_len (p := fun x => decide (x ≤ w)) hr0 (k := i) (by omega)
            have h2 : ((tabs (fun x => decide (x ≤ w)) (divs n) i).take j).length ≤ (tabs (fun x => decide (x ≤ w)) (divs n) i).length := by
              rw [List.length_take]
              exact Nat.min_le_right _ _
            exact szl_lt (by omega)
          · refine ⟨same_mut s5 nM, ?_, ?_, _, rfl⟩
            · rw [upd_ne LM]
              exact eL5
            · rw [upd_same, put_kv, take_snoc ex, addP_snoc, if_pos c]
        · refine ⟨s5, eL5, ?_, _, rfl⟩
          rw [take_snoc ex, addP_snoc, if_neg c]
          exact eM5
      · rintro σ H5 ⟨s5, eL5, eM5, v, rfl⟩
        rw [List.length_map, List.take_length, ← tabs_at en] at eM5
        have t4 := t1.same s5
        refine ⟨_, rfl, .inl ⟨rfl, _, SqL.of t4.lst⟩, _, rfl, F, _, _, rfl, rfl, t4.lst, by
          rw [List.length_map, t4.len]
          exact szl_lt (by omega), ?_⟩
        exact ⟨same_mut (s2.trans s5) hF, ds ++ [M], _, _, _, rfl, t4.push eM5⟩
    rintro σ H2 ⟨s2, ds, v1, v2, v3, rfl, tF⟩
    rw [List.length_map] at tF
    have er2 := s2 _ _ er
    have s12 := s1.trans s2
    refine ⟨Nat.zero_le _, fun G nG => ?_⟩
    have s3 := same_new (o := .lst []) nG
    have hG : H G = none := s12.free nG
    have er3 := s3 _ _ er2
    have tF3 := tF.same s3
    have eG3 : (upd H2 G (.lst [])) G = some (.lst []) := upd_same
    generalize (upd H2 G (.lst [])) = H3 at s3 er3 tF3 eG3
    refine ⟨_, rfl, D, _, rfl, .inl (SqL.of er3), _, _, rfl, rfl, _, rfl, _, rfl, _, _, _, _, rfl, RgC.neg (by rw [List.length_map]; omega) (by rw [List.length_map]; omega) (by decide) (by decide), ?_⟩
    have en : (((((divs n).map V.int).length : Nat) : Int) - 1 - -1).toNat = (divs n).length := by
      rw [List.length_map]
      omega
    rw [en]
    refine for_rangeC (n := (divs n).length) (fun i σ H' => Same H2 H' ∧ ∃ (u : Int) (acc : List Int) (v : Option V), σ = [some (.int n), some (.int u), some (.ref D), some (.ref F), v1, v2, v3, some (.ref G), v] ∧ H' G = some (.lst (acc.map V.int)) ∧ acc.length ≤ i ∧
      acc ++ (gr (tabs (fun x => decide (x ≤ w)) (divs n)) (divs n) ((divs n).length - i) u).1 = (gr (tabs (fun x => decide (x ≤ w)) (divs n)) (divs n) (divs n).length w).1 ∧
      (gr (tabs (fun x => decide (x ≤ w)) (divs n)) (divs n) ((divs n).length - i) u).2 = (gr (tabs (fun x => decide (x ≤ w)) (divs n)) (divs n) (divs n).length w).2) ⟨s3, w, [], none, rfl, eG3, Nat.le_refl 0, rfl, rfl⟩ ?_ ?_
    · rintro i σ H4 hi ⟨s4, u, acc, v, rfl, eG4, al, eq, eq2⟩
      obtain ⟨j, ej⟩ : ∃ j, (divs n).length - i = j + 1 := ⟨(divs n).length - i - 1, by omega⟩
      have ej2 : (divs n).length - (i + 1) = j := by omega
      have hj : j < (divs n).length := by omega
      have ix : ((((divs n).map V.int).length : Nat) : Int) - 1 + (i : Nat) * -1 = (j : Int) := by
        rw [List.length_map]
        omega
      have g0 : (divs n)[j]? = some (divs n)[j] := List.getElem?_eq_getElem hj
      have g : ((divs n).map V.int)[j]? = some (.int (divs n)[j]) := get_map g0
      rw [ej] at eq eq2
      rw [ej2]
      have er4 := s4 _ _ er2
      have tF4 := tF.same s4
      obtain ⟨dj, a1, a2⟩ := tF4.at (j := j) (by omega)
      generalize (divs n)[j] = x at g0 g
      refine ⟨_, rfl, _, rfl, _, rfl, D, _, _, _, rfl, rfl, SqL.of er4, at_of (j := j) ix g, _, _, rfl, rfl, _, rfl, ite2 (fun c1 => ?_) (fun c1 => ?_)⟩
      · have c1 : x ≤ u := of_decide_eq_true c1
        refine ⟨_, rfl, _, rfl, _, rfl, D, _, _, _, rfl, rfl, SqL.of er4, at_of (j := j) ix g, _, _, rfl, rfl, _, rfl, _, rfl, F, _, _, _, rfl, rfl, SqL.of tF4.lst, at_of (j := j) ix a1, dj, _, rfl, DGet.k (k := Sum.inl (u - x)) a2, _, rfl, ?_⟩
        rw [val_kv]
        refine ite2 (fun c2 => ?_) (fun c2 => ?_)
        · have c2 := of_decide_eq_true c2
          rw [gr_yes g0 ⟨c1, c2⟩] at eq eq2
          refine ⟨_, rfl, .inl ⟨rfl, _, SqL.of eG4⟩, _, rfl, _, rfl, D, _, _, _, rfl, rfl, SqL.of er4, at_of (j := j) ix g, G, _, _, rfl, rfl, eG4, by
            rw [List.length_map]
            exact szl_lt (by omega), ?_⟩
          have s5 := same_mut (o := .lst (acc.map V.int ++ [.int x])) s4 nG
          refine ⟨_, rfl, _, rfl, _, rfl, D, _, _, _, rfl, rfl, SqL.of (s5 _ _ er2), at_of (j := j) ix g, _, _, rfl, rfl, s5, u - x, acc ++ [x], _, rfl, ?_, ?_, ?_, eq2⟩
          · rw [upd_same, List.map_append] <;> rfl
          · rw [List.length_append, List.length_singleton]
            omega
          · rw [List.append_assoc]
            exact eq
        · have c2 : ¬ u - x ∈ tabs (fun x => decide (x ≤ w)) (divs n) j := fun z => c2 (decide_eq_true z)
          rw [gr_not g0 (fun z => c2 z.2)] at eq eq2
          exact ⟨s4, u, acc, _, rfl, eG4, by omega, eq, eq2⟩
      · have c1 : ¬ x ≤ u := fun z => c1 (decide_eq_true z)
        rw [gr_not g0 (fun z => c1 z.1)] at eq eq2
        exact iteF ⟨s4, u, acc, _, rfl, eG4, by omega, eq, eq2⟩
    · rintro σ H4 ⟨s4, u, acc, v, rfl, eG4, al, eq, eq2⟩
      rw [Nat.sub_self] at eq eq2
      have eq : acc ++ [] = _ := eq
      have eq2 : u = _ := eq2
      rw [List.append_nil] at eq
      have lid := partsF_lid (n := n) w0
      rw [← eq, ← eq2] at lid
      have k := q H4 (s12.trans s4)
      rw [← lid] at k
      refine ⟨_, rfl, _, _, rfl, rfl, _, rfl, ite2 (fun c => ?_) (fun c => ?_)⟩
      · rw [if_pos (of_decide_eq_true c)] at k
        exact k
      · rw [if_neg (fun z => c (decide_eq_true z))] at k
        exact ⟨_, rfl, k G hG eG4⟩

abbrev s_law_due : Stmt := topS 24
abbrev N_law_due : List Str := ["least", "most", "m", "found", "part"]
theorem sc_law_due : FnScope N_law_due ["least", "most"] (defScope s_law_due) := ⟨rfl, rfl, rfl, by decide +kernel, rfl, by decide +kernel, by decide +kernel⟩
def sp_law_due (K : PySem.W.Frag) (_ : ErrA) : Sp := fun vs H Q _ => ∃ (a : Addr) (T B mo : Int), vs = [.ref a, .int mo] ∧ H a = some (.tup [.int T, .int B]) ∧ 0 ≤ T ∧ 1 ≤ B ∧ B ≤ 10000 ∧ T ≤ 10000 ∧ 0 ≤ mo ∧ mo ≤ 100000 ∧
  ∀ H', Same H H' → (goF T B mo = none → Q .non H') ∧ (∀ m xs, goF T B mo = some (m, xs) → ∀ p L, H p = none → H L = none → p ≠ L → GoAt H' p L m xs → Q (.ref p) H')
theorem ok_law_due (D : Stands K mg "_law_due" s_law_due) (B : Bi mg) (Er : ErrOk K mg e)
    (h_law_parts : Keeps P w K mg base 1 "_law_parts" ["number", "wanted"] (sp_law_parts K e)) : Keeps P w K mg base 2 "_law_due" ["least", "most"] (sp_law_due K e) := by
  obtain ⟨f, fd, F, mF⟩ := D
  obtain ⟨f_law_parts, fd_law_parts, G_law_parts, b_law_parts, m_law_parts, k_law_parts⟩ := h_law_parts
  refine ⟨f, fd, ?_, F.binds (ps := ["least", "most"]) (fun _ _ _ _ _ _ us hl => match us, hl with | [_, _], _ => rfl), mF, F.kp⟩
  refine toX (F.ok sc_law_due (fun vs H Q E h => ?_) (fun cdv A outer s H vs Q E hr h => ?_))
  · obtain ⟨p, T, Bb, mo, rfl, ep0, l2, l1, l3, l5, m0, m1, q⟩ := h
    rfl
  · obtain ⟨p, T, Bb, mo, rfl, ep0, l2, l1, l3, l5, m0, m1, q⟩ := h
    refine ⟨_, (pss_cons (ps_for PassesOwn.never rfl (pi_range2 (by rfl) B.range (pa_cons pe_int (pa_cons (pe_op op_add (pv 1) pe_int) pa_nil))) (pg_name (i := 2) sc_law_due.nd rfl (Or.inr rfl)) (pss_cons (ps_if (pt_cmpR op_gt (pe_op op_mulW (pe_ix ix_tup (pv 0) pe_int (fun _ _ => rfl)) (pv 2)) pe_int (nomark _)) (pss_one (ps_ret pe_non)) pss_nil)
      (pss_cons (ps_set (i := 3) sc_law_due.nd rfl (Or.inl rfl) (pe_call G_law_parts (hr.mono (by decide)) (by rfl) m_law_parts k_law_parts b_law_parts .nil passL (pa_cons (pe_op op_mulW (pe_ix ix_tup (pv 0) pe_int (fun _ _ => rfl)) (pv 2)) (pa_cons (pe_op op_mulW (pe_ix ix_tup (pv 0) pe_int (fun _ _ => rfl)) (pv 2)) pa_nil))))
      (pss_one (ps_if (pt_cmpR op_notN (pv 3) pe_non (nomark _)) (pss_one (ps_ret (pe_tup (pa_cons (pv 2) (pa_cons (pe_lc (own := [("part", 4)]) (g := gName 4) (tt := tYes) (by rfl) sc_law_due.nd (pi_list (pv 3)) (blkOk_by (N := N_law_due) (sc := defScope s_law_due) (by decide +kernel)) (fun _ _ _ _ _ => pg_name (i := 4) sc_law_due.nd rfl (Or.inl rfl)) (fun _ _ _ _ _ => pts_nil) (fun _ _ _ _ _ => (pe_op op_fdivP (pe_op op_mulW (pe_ix (r := rIxT K) ix_tup (pv 0) pe_int (fun _ _ => rfl)) (pv 2)) (pv 4)))) pa_nil))))) pss_nil)))))
      (pss_one (ps_ret pe_non))), ?_⟩
    refine ⟨_, rfl, _, _, rfl, rfl, _, _, rfl, ⟨by decide, by decide, by omega, by omega⟩, ?_⟩
    have en : (mo + 1 - 1).toNat = mo.toNat := by omega
    rw [en]
    refine for_range (lo := 1) (n := mo.toNat) (fun i σ H' => Same H H' ∧ goF T Bb mo = goR T Bb (mo.toNat - i) (1 + i) ∧ ∃ v1 v2 : Option V, σ = [some (.ref p), some (.int mo), v1, v2, none]) ⟨Same.refl _, rfl, none, none, rfl⟩ ?_ ?_
    · rintro i σ H2 hi ⟨s2, eg, v1, v2, rfl⟩
      have ep2 := s2 _ _ ep0
      obtain ⟨j, ej⟩ : ∃ j, mo.toNat - i = j + 1 := ⟨mo.toNat - i - 1, by omega⟩
      have ej2 : mo.toNat - (i + 1) = j := by omega
      rw [ej] at eg
      rw [ej2]
      obtain ⟨m, em⟩ : ∃ m : Int, 1 + (i : Int) = m := ⟨_, rfl⟩
      have em2 : 1 + ((i + 1 : Nat) : Int) = m + 1 := by omega
      rw [em] at eg ⊢
      rw [em2]
      have hm : 1 ≤ m := by omega
      have zm : Sz 20 m := by
        show m.natAbs < 1048576
        omega
      have zB : Sz 20 Bb := by
        show Bb.natAbs < 1048576
        omega
      have zT : Sz 20 T := by
        show T.natAbs < 1048576
        omega
      refine ⟨_, rfl, p, _, 1, _, rfl, rfl, SqT.of ep2, atI_nat (j := 1) rfl, _, rfl, _, _, rfl, rfl, zB.cm zm, _, _, rfl, rfl, _, rfl, ite2 (fun c => ?_) (fun c => ?_)⟩
      · rw [goR_great (of_decide_eq_true c)] at eg
        exact (q H2 s2).1 eg
      · have c : ¬ 1000 < Bb * m := fun z => c (decide_eq_true z)
        have N1 : 1 ≤ Bb * m := Int.mul_pos (by omega) (by omega)
        obtain ⟨n, eN⟩ : ∃ n : Nat, Bb * m = (n : Int) := ⟨(Bb * m).toNat, by omega⟩
        have eN2 : (Bb * m).toNat = n := by omega
        have w0 : 0 ≤ T * m := Int.mul_nonneg l2 (by omega)
        refine ⟨_, rfl, p, _, 1, _, rfl, rfl, SqT.of ep2, atI_nat (j := 1) rfl, _, rfl, _, _, rfl, rfl, zB.cm zm, _, rfl, p, _, 0, _, rfl, rfl, SqT.of ep2, atI_nat (j := 0) rfl, _, rfl, _, _, rfl, rfl, zT.cm zm, n, T * m, go_arg eN, by omega, by omega, w0, fun H3 s3 => ?_⟩
        have ep3 := s3 _ _ ep2
        cases pf : partsF n (T * m) with
        | none =>
          refine ⟨_, rfl, rfl, _, rfl, ?_⟩
          rw [show decide (V.non = V.non) = true from decide_eq_true rfl]
          show if (!true) = true then _ else _
          refine iteF ⟨s2.trans s3, ?_, _, _, rfl⟩
          rw [eg, goR_none c (by rw [eN2]; exact pf)]
        | some l =>
          refine fun F nF eF => ?_
          refine ⟨_, rfl, rfl, _, rfl, ?_⟩
          rw [show decide (V.ref F = V.non) = false from decide_eq_false fun z => nomatch z]
          show if (!false) = true then _ else _
          refine iteT ?_
          obtain ⟨q1, q2, q3, q4⟩ := partsF_some pf w0
          have ql := divs_len n
          refine ⟨_, rfl, _, rfl, F, rfl, ⟨_, SqL.of eF⟩, fun L nL => ?_⟩
          refine lc_list (K := K) (a := F) (xs := l.map V.int) (fun i H' => Same H3 H' ∧ H' L = some (.lst ((l.take i).map fun x => V.int (Bb * m / x)))) ⟨same_new nL, upd_same⟩ (fun i H' _ h => SqL.of (h.1 _ _ eF)) ?_ ?_
          · rintro i y H4 hy ⟨s4, e4⟩
            obtain ⟨x, ex, rfl⟩ := of_get_map hy
            have hx := mem_divs.mp (q3 x (List.mem_of_getElem? ex))
            have zx : Sz 20 x := by
              show x.natAbs < 1048576
              omega
            refine ⟨rfl, _, rfl, p, _, 1, _, rfl, rfl, SqT.of (s4 _ _ ep3), atI_nat (j := 1) rfl, _, rfl, _, _, rfl, rfl, zB.cm zm, _, rfl, _, _, rfl, rfl, zx.cd (by omega), _, e4, ?_, same_mut s4 nL, ?_⟩
            · rw [List.length_map, List.length_take]
              exact szl_lt (by omega)
            · rw [upd_same, take_snoc ex, List.map_append] <;> rfl
          · rintro H4 ⟨s4, e4⟩
            rw [List.length_map, List.take_length] at e4
            refine ⟨by show 2 ≤ sizeLine; decide, fun r nr => ?_⟩
            have s34 := (s2.trans s3).trans s4
            refine (q _ (s34.trans (same_new nr))).2 m _ (eg.trans (goR_some c (by rw [eN2]; exact pf))) r L (s34.free nr) ((s2.trans s3).free nL) (ne_of_none e4 nr).symm ⟨upd_same, ?_⟩
            rw [upd_ne (ne_of_none e4 nr), e4, List.map_map]
            rfl
    · rintro σ H2 ⟨s2, eg, v1, v2, rfl⟩
      rw [Nat.sub_self] at eg
      exact (q H2 s2).1 eg

abbrev s_law : Stmt := topS 25
abbrev N_law : List Str := ["script", "bottom", "most", "top", "least", "due", "found"]
theorem sc_law : FnScope N_law ["script"] (defScope s_law) := ⟨rfl, rfl, rfl, by decide +kernel, rfl, by decide +kernel, by decide +kernel⟩
theorem prime_at : ∀ j : Nat, j < 6 → ∃ n : Int, 11 ≤ n ∧ n ≤ 29 ∧ [V.int 11, .int 13, .int 17, .int 19, .int 23, .int 29][j]? = some (.int n)
  | 0, _ => ⟨11, by decide, by decide, rfl⟩
  | 1, _ => ⟨13, by decide, by decide, rfl⟩
  | 2, _ => ⟨17, by decide, by decide, rfl⟩
  | 3, _ => ⟨19, by decide, by decide, rfl⟩
  | 4, _ => ⟨23, by decide, by decide, rfl⟩
  | 5, _ => ⟨29, by decide, by decide, rfl⟩
def sp_law (K : PySem.W.Frag) : Sp := fun vs H Q _ => ∃ (a : Addr) (ns : List Int), vs = [.ref a] ∧ SqL K H a (ns.map V.int) ∧ ns.length ≤ 63 ∧ ∀ H', Q (.bl true) H'
theorem ok_law {f : Addr} {fd : FuncData} (F : Fun K "law" "law" s_law f fd) (B : Bi mg) (Er : ErrOk K mg e)
    (h_law_lowest : Keeps P w K mg base 2 "_law_lowest" ["top", "bottom"] (sp_law_lowest K e))
    (h_law_due : Keeps P w K mg base 2 "_law_due" ["least", "most"] (sp_law_due K e))
    (h_goes_by : Keeps P w K mg base 3 "goes_by" ["fraction", "most"] (sp_goes_by K e))
    (h_law_cell_at : Keeps P w K mg base 1 "_law_cell_at" ["script", "k"] (sp_law_cell_at K e))
    (h_law_whole : Keeps P w K mg base 1 "_law_whole" ["found"] (sp_law_whole K e))
    (h_law_list : Keeps P w K mg base 2 "_law_list" ["found", "due"] (sp_law_list K e))
    (h_law_sum : Keeps P w K mg base 3 "_law_sum" ["shares"] (sp_law_sum K e)) : FnOk P w K mg base CX0 4 f fd ["script"] (sp_law K) := by
  obtain ⟨f_law_lowest, fd_law_lowest, G_law_lowest, b_law_lowest, m_law_lowest, k_law_lowest⟩ := h_law_lowest
  obtain ⟨f_law_due, fd_law_due, G_law_due, b_law_due, m_law_due, k_law_due⟩ := h_law_due
  obtain ⟨f_goes_by, fd_goes_by, G_goes_by, b_goes_by, m_goes_by, k_goes_by⟩ := h_goes_by
  obtain ⟨f_law_cell_at, fd_law_cell_at, G_law_cell_at, b_law_cell_at, m_law_cell_at, k_law_cell_at⟩ := h_law_cell_at
  obtain ⟨f_law_whole, fd_law_whole, G_law_whole, b_law_whole, m_law_whole, k_law_whole⟩ := h_law_whole
  obtain ⟨f_law_list, fd_law_list, G_law_list, b_law_list, m_law_list, k_law_list⟩ := h_law_list
  obtain ⟨f_law_sum, fd_law_sum, G_law_sum, b_law_sum, m_law_sum, k_law_sum⟩ := h_law_sum
  refine F.ok sc_law (fun vs H Q E h => ?_) (fun cdv A outer s H vs Q E hr h => ?_)
  · obtain ⟨a, ns, rfl, _⟩ := h
    rfl
  · obtain ⟨a, ns, rfl, hS, hlen, kq⟩ := h
    refine ⟨_, (pss_cons (ps_set (i := 1) sc_law.nd rfl (Or.inl rfl) (pe_op op_add pe_int (pe_op op_mod (pe_op op_fdivP (pe_call G_law_cell_at (hr.mono (by decide)) (by rfl) m_law_cell_at k_law_cell_at b_law_cell_at .nil passL (pa_cons (pv 0) (pa_cons pe_int pa_nil))) pe_int) pe_int)))
      (pss_cons (ps_set (i := 2) sc_law.nd rfl (Or.inl rfl) (pe_op op_add pe_int (pe_op op_mod (pe_call G_law_cell_at (hr.mono (by decide)) (by rfl) m_law_cell_at k_law_cell_at b_law_cell_at .nil passL (pa_cons (pv 0) (pa_cons pe_int pa_nil))) pe_int)))
      (pss_cons (ps_if (pt_cmpR op_eq (pe_op op_mod (pe_call G_law_cell_at (hr.mono (by decide)) (by rfl) m_law_cell_at k_law_cell_at b_law_cell_at .nil passL (pa_cons (pv 0) (pa_cons pe_int pa_nil))) pe_int) pe_int (nomark _)) (pss_cons (ps_set (i := 1) sc_law.nd rfl (Or.inl rfl) (pe_op op_add pe_int (pe_op op_mod (pe_op op_fdivP (pe_call G_law_cell_at (hr.mono (by decide)) (by rfl) m_law_cell_at k_law_cell_at b_law_cell_at .nil passL (pa_cons (pv 0) (pa_cons pe_int pa_nil))) pe_int) pe_int)))
      (pss_one (ps_set (i := 2) sc_law.nd rfl (Or.inl rfl) (pe_op op_add pe_int (pe_op op_mod (pe_call G_law_cell_at (hr.mono (by decide)) (by rfl) m_law_cell_at k_law_cell_at b_law_cell_at .nil passL (pa_cons (pv 0) (pa_cons pe_int pa_nil))) pe_int))))) pss_nil)
      (pss_cons (ps_set (i := 3) sc_law.nd rfl (Or.inl rfl) (pe_op op_add pe_int (pe_op op_mod (pe_call G_law_cell_at (hr.mono (by decide)) (by rfl) m_law_cell_at k_law_cell_at b_law_cell_at .nil passL (pa_cons (pv 0) (pa_cons pe_int pa_nil))) (pe_op op_sub (pv 1) pe_int))))
      (pss_cons (ps_if (pt_cmpR op_eq (pe_op op_mod (pe_call G_law_cell_at (hr.mono (by decide)) (by rfl) m_law_cell_at k_law_cell_at b_law_cell_at .nil passL (pa_cons (pv 0) (pa_cons pe_int pa_nil))) pe_int) pe_int (nomark _)) (pss_cons (ps_set (i := 1) sc_law.nd rfl (Or.inl rfl) (pe_ix ix_list (pe_lst (pa_cons pe_int (pa_cons pe_int (pa_cons pe_int (pa_cons pe_int (pa_cons pe_int (pa_cons pe_int pa_nil))))))) (pe_op op_mod (pe_op op_fdivP (pe_call G_law_cell_at (hr.mono (by decide)) (by rfl) m_law_cell_at k_law_cell_at b_law_cell_at .nil passL (pa_cons (pv 0) (pa_cons pe_int pa_nil))) pe_int) pe_int) (fun _ _ => rfl)))
      (pss_cons (ps_set (i := 3) sc_law.nd rfl (Or.inl rfl) (pe_op op_add pe_int (pe_op op_mod (pe_call G_law_cell_at (hr.mono (by decide)) (by rfl) m_law_cell_at k_law_cell_at b_law_cell_at .nil passL (pa_cons (pv 0) (pa_cons pe_int pa_nil))) pe_int)))
      (pss_one (ps_set (i := 2) sc_law.nd rfl (Or.inl rfl) (pe_op op_add pe_int (pe_op op_mod (pe_call G_law_cell_at (hr.mono (by decide)) (by rfl) m_law_cell_at k_law_cell_at b_law_cell_at .nil passL (pa_cons (pv 0) (pa_cons pe_int pa_nil))) pe_int)))))) pss_nil)
      (pss_cons (ps_set (i := 4) sc_law.nd rfl (Or.inl rfl) (pe_call G_law_lowest (hr.mono (by decide)) (by rfl) m_law_lowest k_law_lowest b_law_lowest .nil passL (pa_cons (pv 3) (pa_cons (pv 1) pa_nil))))
      (pss_cons (ps_if (PW.pt (pw_and (pt_cmpR op_gt (pv 1) pe_int (nomark _)) (pw_and1 (pt_cmpR op_lt (pe_ix ix_tup (pv 4) pe_int (fun _ _ => rfl)) pe_int (nomark _))))) (pss_one (ps_set (i := 2) sc_law.nd rfl (Or.inl rfl) pe_int)) pss_nil)
      (pss_cons (ps_set (i := 5) sc_law.nd rfl (Or.inl rfl) (pe_call G_law_due (hr.mono (by decide)) (by rfl) m_law_due k_law_due b_law_due .nil passL (pa_cons (pv 4) (pa_cons (pv 2) pa_nil))))
      (pss_cons (ps_set (i := 6) sc_law.nd rfl (Or.inl rfl) (pe_call G_goes_by (hr.mono (by decide)) (by rfl) m_goes_by k_goes_by b_goes_by .nil passL (pa_cons (pe_tup (pa_cons (pv 3) (pa_cons (pv 1) pa_nil))) (pa_cons (pv 2) pa_nil))))
      (pss_cons (ps_if (pt_cmpR op_isN (pv 5) pe_non (nomark _)) (pss_one (ps_ret (pe_cmpR op_isN (pv 6) pe_non (nomark _)))) pss_nil)
      (pss_cons (ps_if (PW.pt (pw_or (pt_not (pt_val (pe_callB call_isi (by rfl) B.isinstance (by decide +kernel) (pa_cons (pv 6) (pa_cons (pe_bltn (v := .ty "tuple") (by rfl) B.tuple (by decide +kernel) rfl) pa_nil))))) (pw_or (pt_cmpR op_ne (pe_callB call_len_seq (by rfl) B.len (by decide +kernel) (pa_cons (pv 6) pa_nil)) pe_int (nomark _)) (pw_or (pt_not (pt_val (pe_call G_law_whole (hr.mono (by decide)) (by rfl) m_law_whole k_law_whole b_law_whole .nil passL (pa_cons (pe_ix ix_tup (pv 6) pe_int (fun _ _ => rfl)) pa_nil)))) (pw_or1 (pt_cmpR (op_neD hr.units) (pe_ix ix_tup (pv 6) pe_int (fun _ _ => rfl)) (pe_ix ix_tup (pv 5) pe_int (fun _ _ => rfl)) (nomark _))))))) (pss_one (ps_ret pe_bl)) pss_nil)
      (pss_cons (ps_if (PW.pt (pw_or (pt_not (pt_val (pe_call G_law_list (hr.mono (by decide)) (by rfl) m_law_list k_law_list b_law_list .nil passL (pa_cons (pe_ix ix_tup (pv 6) pe_int (fun _ _ => rfl)) (pa_cons (pe_ix ix_tup (pv 5) pe_int (fun _ _ => rfl)) pa_nil))))) (pw_or (pt_cmpR (op_neD hr.units) (pe_callB (cr_sortedSet rfl) (by rfl) B.sorted (by decide +kernel) (pa_cons (pe_callTy (cr_setL rfl) (by rfl) B.set (by decide +kernel) (pa_cons (pe_ix ix_tup (pv 5) pe_int (fun _ _ => rfl)) pa_nil)) pa_nil)) (pe_ix ix_tup (pv 5) pe_int (fun _ _ => rfl)) (nomark _)) (pw_or1 (pt_cmpR (op_neD hr.units) (pe_call G_law_sum (hr.mono (by decide)) (by rfl) m_law_sum k_law_sum b_law_sum .nil passL (pa_cons (pe_ix ix_tup (pv 5) pe_int (fun _ _ => rfl)) pa_nil)) (pv 4) (nomark _)))))) (pss_one (ps_ret pe_bl)) pss_nil)
      (pss_cons (ps_expr (pe_bm PySem.F.plainAttrs_list PySem.F.slot_list_append PySem.F.type_list_append mt_append (pe_ix ix_tup (pv 6) pe_int (fun _ _ => rfl)) (pa_cons pe_int pa_nil)))
      (pss_one (ps_ret (pe_cmpR (op_eqD hr.units) (pe_call G_goes_by (hr.mono (by decide)) (by rfl) m_goes_by k_goes_by b_goes_by .nil passL (pa_cons (pe_tup (pa_cons (pv 3) (pa_cons (pv 1) pa_nil))) (pa_cons (pv 2) pa_nil))) (pv 5) (nomark _))))))))))))))))), ?_⟩
    refine ⟨_, rfl, a, ns, 0, rfl, hS, hlen, _, _, rfl, rfl, (Sz.lit : Sz 4 8).cd (by decide), _, _, rfl, rfl, by show (0 : Int) < 29; decide, _, _, rfl, rfl, ?_⟩
    refine ⟨_, rfl, a, ns, 2, rfl, hS, hlen, _, _, rfl, rfl, by show (0 : Int) < 6; decide, _, _, rfl, rfl, ?_⟩
    dsimp only
    refine cut (fun σ' H' => H' = H ∧ ∃ b mo : Int, 2 ≤ b ∧ b ≤ 1000 ∧ 1 ≤ mo ∧ mo ≤ 1000 ∧ σ' = [some (.ref a), some (.int b), some (.int mo), none, none, none, none]) (fun R D k => ?_) ?_
    · refine ⟨_, rfl, a, ns, 0, rfl, hS, hlen, _, _, rfl, rfl, by show (0 : Int) < 8; decide, rfl, _, rfl, ite2 (fun c => ?_) (fun c => ?_)⟩
      · refine ⟨_, rfl, a, ns, 0, rfl, hS, hlen, _, _, rfl, rfl, (Sz.lit : Sz 4 8).cd (by decide), _, _, rfl, rfl, by show (0 : Int) < 500; decide, _, _, rfl, rfl, ?_⟩
        refine ⟨_, rfl, a, ns, 2, rfl, hS, hlen, _, _, rfl, rfl, by show (0 : Int) < 1000; decide, _, _, rfl, rfl, ?_⟩
        exact k _ _ ⟨rfl, 501 + cell ns 0 / 8 % 500, 1 + cell ns 2 % 1000, by omega, by omega, by omega, by omega, rfl⟩
      · exact k _ _ ⟨rfl, 2 + cell ns 0 / 8 % 29, 1 + cell ns 2 % 6, by omega, by omega, by omega, by omega, rfl⟩
    rintro σ H' ⟨rfl, b, mo, b1, b2, m1, m2, rfl⟩
    have t1 := Int.emod_nonneg (cell ns 1) (b := b - 1) (by omega)
    have t2 := Int.emod_lt_of_pos (cell ns 1) (b := b - 1) (by omega)
    refine ⟨_, rfl, a, ns, 1, rfl, hS, hlen, _, rfl, _, _, rfl, rfl, _, _, rfl, rfl, by show 0 < b - 1; omega, _, _, rfl, rfl, ?_⟩
    dsimp only
    refine cut (fun σ' H1 => Same H' H1 ∧ ∃ b mo t : Int, 2 ≤ b ∧ b ≤ 1000 ∧ 1 ≤ mo ∧ mo ≤ 1000 ∧ 1 ≤ t ∧ t < b ∧ σ' = [some (.ref a), some (.int b), some (.int mo), some (.int t), none, none, none]) (fun R D k => ?_) ?_
    · refine ⟨_, rfl, a, ns, 0, rfl, hS, hlen, _, _, rfl, rfl, by show (0 : Int) < 8; decide, rfl, _, rfl, ite2 (fun c => ?_) (fun c => ?_)⟩
      · refine ⟨by show 6 ≤ sizeLine; decide, fun p np => ?_⟩
        obtain ⟨n, n1, n2, en⟩ := prime_at (cell ns 0 / 8 % 6).toNat (by omega)
        have s1 := same_new (o := .lst [V.int 11, .int 13, .int 17, .int 19, .int 23, .int 29]) np
        refine ⟨_, rfl, a, ns, 0, rfl, s1.seq hS, hlen, _, _, rfl, rfl, (Sz.lit : Sz 4 8).cd (by decide), _, _, rfl, rfl, by show (0 : Int) < 6; decide, p, _, _, _, rfl, rfl, SqL.of upd_same, at_of (j := (cell ns 0 / 8 % 6).toNat) (by omega) en, ?_⟩
        refine ⟨_, rfl, a, ns, 1, rfl, s1.seq hS, hlen, _, _, rfl, rfl, by show (0 : Int) < 3; decide, _, _, rfl, rfl, ?_⟩
        refine ⟨_, rfl, a, ns, 2, rfl, s1.seq hS, hlen, _, _, rfl, rfl, by show (0 : Int) < 33; decide, _, _, rfl, rfl, ?_⟩
        exact k _ _ ⟨s1, n, 1 + cell ns 2 % 33, 1 + cell ns 1 % 3, by omega, by omega, by omega, by omega, by omega, by omega, rfl⟩
      · exact k _ _ ⟨Same.refl _, b, mo, 1 + cell ns 1 % (b - 1), by omega, by omega, by omega, by omega, by omega, by omega, rfl⟩
    clear b1 b2 m1 m2 t1 t2
    rintro σ H1 ⟨s1, b, mo, t, b1, b2, m1, m2, t1, t2, rfl⟩
    have z9 : Sz 9000 b := Sz.mono (a := 10) (by show b.natAbs < 1024; omega)
    obtain ⟨d1, d2⟩ := low_divs (t := t) (by omega : 1 ≤ b) z9
    have l1 := low_bpos (t := t) (by omega : 1 ≤ b)
    have l2 := low_tnn (t := t) (by omega : 1 ≤ b) (by omega)
    have l3 := low_ble (t := t) (by omega : 1 ≤ b)
    have l5 := low_tle (b := b) (by omega : 0 ≤ t)
    have ll : low (low t b).1 (low t b).2 = low t b := low_low (by omega : 1 ≤ b)
    refine ⟨_, rfl, _, rfl, t, b, rfl, by omega, by omega, d1, d2, fun H2 l s2 nl el => ?_⟩
    dsimp only
    refine cut (fun σ' H' => H' = H2 ∧ ∃ mo : Int, 1 ≤ mo ∧ mo ≤ 1000 ∧ σ' = [some (.ref a), some (.int b), some (.int mo), some (.int t), some (.ref l), none, none]) (fun R D k => ?_) ?_
    · refine ⟨_, rfl, _, _, rfl, rfl, _, rfl, ite2 (fun c => ?_) (fun c => ?_)⟩
      · refine ⟨_, rfl, l, _, 1, _, rfl, rfl, SqT.of el, atI_nat (j := 1) rfl, _, _, rfl, rfl, _, rfl, ite2 (fun c => ?_) (fun c => ?_)⟩
        · exact k _ _ ⟨rfl, 1, by decide, by decide, rfl⟩
        · exact k _ _ ⟨rfl, mo, m1, m2, rfl⟩
      · exact iteF (k _ _ ⟨rfl, mo, m1, m2, rfl⟩)
    clear m1 m2
    rintro σ H' ⟨rfl, mo, m1, m2, rfl⟩
    refine ⟨_, rfl, _, rfl, l, _, _, mo, rfl, el, l2, l1, by omega, by omega, by omega, by omega, fun H3 s3 => ?_⟩
    have el3 := s3 _ _ el
    refine ⟨fun eg => ?_, fun m xs eg p L np nL pL go => ?_⟩
    · refine ⟨_, rfl, _, rfl, by show 2 ≤ sizeLine; decide, fun f nf => ?_⟩
      refine ⟨_, rfl, f, t, b, mo, rfl, SqT.of upd_same, by omega, by omega, by omega, fun z => absurd z (by omega), fun _ _ z => absurd z (by omega), fun _ _ H4 s4 => ⟨fun _ => ?_, fun m xs z => absurd z (by rw [eg]; simp)⟩⟩
      refine ⟨_, rfl, rfl, _, rfl, ?_⟩
      rw [decide_eq_true rfl]
      refine iteT ?_
      refine ⟨_, rfl, rfl, ?_⟩
      rw [decide_eq_true rfl]
      exact kq _
    · have ok := goF_ok l2 l1 eg
      have sums := ok.sumC l2 l1 (Sz.mono (a := 10) (by show (low t b).1.natAbs < 1024; omega) (by decide) : Sz 3000 _) (Sz.mono (a := 10) (by show (low t b).2.natAbs < 1024; omega) (by decide) : Sz 3000 _)
      have lows := ok.sum
      rw [ll] at lows
      have xl := ok.len
      refine ⟨_, rfl, _, rfl, by show 2 ≤ sizeLine; decide, fun f nf => ?_⟩
      have s4 := same_new (o := .tup [.int t, .int b]) nf
      have ef4 : (upd H3 f (.tup [.int t, .int b])) f = some (.tup [.int t, .int b]) := upd_same
      have el4 := s4 _ _ el3
      have ep4 := s4 _ _ go.1
      have eL4 := s4 _ _ go.2
      dsimp only
      generalize (upd H3 f (.tup [.int t, .int b])) = H4 at s4 ef4 el4 ep4 eL4
      refine ⟨_, rfl, f, t, b, mo, rfl, SqT.of ef4, by omega, by omega, by omega, fun z => absurd z (by omega), fun _ _ z => absurd z (by omega), fun _ _ H5 s5 => ⟨fun z => absurd z (by rw [eg]; simp), fun m' xs' eg' r M nr nM rM go2 => ?_⟩⟩
      rw [eg] at eg'
      cases eg'
      have el5 := s5 _ _ el4
      have ep5 := s5 _ _ ep4
      have eL5 := s5 _ _ eL4
      obtain ⟨er, eM⟩ := go2
      refine ⟨_, rfl, rfl, _, rfl, ?_⟩
      rw [decide_eq_false (fun z => nomatch z)]
      refine iteF ?_
      refine ⟨_, rfl, _, _, _, _, true, rfl, .ty "tuple", ty_tup (SqT.of er), kit_ty (by decide +kernel), true, rfl, ?_⟩
      show if (!true) = true then _ else _
      refine iteF ?_
      refine ⟨_, rfl, r, _, rfl, .inr (SqT.of er), rfl, _, rfl, ?_⟩
      show if (!decide ((2 : Int) = 2)) = true then _ else _
      refine iteF ?_
      refine ⟨_, rfl, r, _, 0, _, rfl, rfl, SqT.of er, atI_nat (j := 0) rfl, _, rfl, true, rfl, ?_⟩
      show if (!true) = true then _ else _
      refine iteF ?_
      refine ⟨_, rfl, r, _, 0, _, rfl, rfl, SqT.of er, atI_nat (j := 0) rfl, _, rfl, p, _, 0, _, rfl, rfl, SqT.of ep5, atI_nat (j := 0) rfl, _, _, .int _, .int _, rfl, rfl, _, rfl, ?_⟩
      rw [eqv_int]
      show if (!true) = true then _ else _
      refine iteF ?_
      refine ⟨_, rfl, r, _, 1, _, rfl, rfl, SqT.of er, atI_nat (j := 1) rfl, _, rfl, p, _, 1, _, rfl, rfl, SqT.of ep5, atI_nat (j := 1) rfl, M, L, xs, rfl, SqL.of eM, SqL.of eL5, by omega, _, rfl, ?_⟩
      show if (!true) = true then _ else _
      refine iteF ?_
      refine ⟨_, rfl, p, _, 1, _, rfl, rfl, SqT.of ep5, atI_nat (j := 1) rfl, L, xs, rfl, SqL.of eL5, by omega, fun s c ns' hc => ?_⟩
      refine ⟨s, _, _, rfl, upd_same, by omega, fun ys q pw mem hl nq => ?_⟩
      have s9 := (same_new (o := SetO w s (fun j => decide (j ∈ xs)) c) ns').trans (same_new (o := .lst (ys.map V.int)) nq)
      have eq : (upd (upd H5 s (SetO w s (fun j => decide (j ∈ xs)) c)) q (.lst (ys.map V.int))) q = some (.lst (ys.map V.int)) := upd_same
      have same : ys = xs := ris_uniq pw ok.ris fun k => by rw [mem k]; simp
      subst same
      have ep6 := s9 _ _ ep5
      have eL6 := s9 _ _ eL5
      have er6 := s9 _ _ er
      have eM6 := s9 _ _ eM
      have el6 := s9 _ _ el5
      have ef6 := s9 _ _ (s5 _ _ ef4)
      refine ⟨_, rfl, p, _, 1, _, rfl, rfl, SqT.of ep6, atI_nat (j := 1) rfl, _, _, dp_ints (SqL.of eq), dp_ints (SqL.of eL6), shaped_ints _, shaped_ints _, _, rfl, ?_⟩
      rw [eqv_ints, decide_eq_true rfl]
      show if (!true) = true then _ else _
      refine iteF ?_
      refine ⟨_, rfl, p, _, 1, _, rfl, rfl, SqT.of ep6, atI_nat (j := 1) rfl, L, ys, rfl, SqL.of eL6, sums, fun H7 g s7 ng eg7 => ?_⟩
      rw [lows] at eg7
      refine ⟨_, rfl, _, _, dp_pair (SqT.of eg7), dp_pair (SqT.of (s7 _ _ el6)), rfl, rfl, _, rfl, ?_⟩
      rw [eqv_pair, decide_eq_true ⟨rfl, rfl⟩]
      show if (!true) = true then _ else _
      refine iteF ?_
      have ep7 := s7 _ _ ep6
      have eL7 := s7 _ _ eL6
      have er7 := s7 _ _ er6
      have eM7 := s7 _ _ eM6
      have LM : L ≠ M := ne_of_none eL4 nM
      have pM : p ≠ M := ne_of_none ep4 nM
      refine ⟨_, rfl, r, _, 1, _, rfl, rfl, SqT.of er7, atI_nat (j := 1) rfl, .inl ⟨rfl, _, SqL.of eM7⟩, M, _, _, rfl, rfl, eM7, by rw [List.length_map]; exact szl_lt (by omega), ?_⟩
      have go8 : GoAt (upd H7 M (.lst (ys.map V.int ++ [.int 0]))) p L m ys := ⟨by rw [upd_ne pM]; exact ep7, by rw [upd_ne LM]; exact eL7⟩
      generalize (upd H7 M (.lst (ys.map V.int ++ [.int 0]))) = H8 at go8
      refine ⟨_, rfl, _, rfl, by show 2 ≤ sizeLine; decide, fun f2 nf2 => ?_⟩
      have s8 := same_new (o := .tup [.int t, .int b]) nf2
      refine ⟨_, rfl, f2, t, b, mo, rfl, SqT.of upd_same, by omega, by omega, by omega, fun z => absurd z (by omega), fun _ _ z => absurd z (by omega), fun _ _ H9 s9' => ⟨fun z => absurd z (by rw [eg]; simp), fun m' xs' eg' r2 M2 nr2 nM2 rM2 go9 => ?_⟩⟩
      rw [eg] at eg'
      cases eg'
      have s10 := s8.trans s9'
      refine ⟨_, rfl, _, _, dp_go go9, dp_go (⟨s10 _ _ go8.1, s10 _ _ go8.2⟩ : GoAt H9 p L m ys), shaped_go _ _, shaped_go _ _, ?_⟩
      rw [eqv_go]
      exact kq _

end

theorem all_mk {l : PySem.W.OpenLaw} {w : World} {K : PySem.W.Frag} {h : Heap} {mg : Str → Option Value} {fa : Addr} (X : K.In h) (G : h.Ns mainGlobals mg) (hfa : mg "law" = some (.ref fa))
    {f0 : Addr} {od0 an0 : Option Addr} {sl0 : Array (Option Value)} {oc0 kV0 dc0 pm0 cd0 ct0 : Value}
    {f1 : Addr} {od1 an1 : Option Addr} {sl1 : Array (Option Value)} {oc1 kV1 dc1 pm1 cd1 ct1 : Value}
    {f2 : Addr} {od2 an2 : Option Addr} {sl2 : Array (Option Value)} {oc2 kV2 dc2 pm2 cd2 ct2 : Value}
    {f3 : Addr} {od3 an3 : Option Addr} {sl3 : Array (Option Value)} {oc3 kV3 dc3 pm3 cd3 ct3 : Value}
    {f4 : Addr} {od4 an4 : Option Addr} {sl4 : Array (Option Value)} {oc4 kV4 dc4 pm4 cd4 ct4 : Value}
    {f5 : Addr} {od5 an5 : Option Addr} {sl5 : Array (Option Value)} {oc5 kV5 dc5 pm5 cd5 ct5 : Value}
    {f6 : Addr} {od6 an6 : Option Addr} {sl6 : Array (Option Value)} {oc6 kV6 dc6 pm6 cd6 ct6 : Value}
    {f7 : Addr} {od7 an7 : Option Addr} {sl7 : Array (Option Value)} {oc7 kV7 dc7 pm7 cd7 ct7 : Value}
    {f8 : Addr} {od8 an8 : Option Addr} {sl8 : Array (Option Value)} {oc8 kV8 dc8 pm8 cd8 ct8 : Value}
    {f9 : Addr} {od9 an9 : Option Addr} {sl9 : Array (Option Value)} {oc9 kV9 dc9 pm9 cd9 ct9 : Value}
    {f10 : Addr} {od10 an10 : Option Addr} {sl10 : Array (Option Value)} {oc10 kV10 dc10 pm10 cd10 ct10 : Value}
    {f11 : Addr} {od11 an11 : Option Addr} {sl11 : Array (Option Value)} {oc11 kV11 dc11 pm11 cd11 ct11 : Value}
    {f12 : Addr} {od12 an12 : Option Addr} {sl12 : Array (Option Value)} {oc12 kV12 dc12 pm12 cd12 ct12 : Value}
    {f13 : Addr} {od13 an13 : Option Addr} {sl13 : Array (Option Value)} {oc13 kV13 dc13 pm13 cd13 ct13 : Value}
    {f14 : Addr} {od14 an14 : Option Addr} {sl14 : Array (Option Value)} {oc14 kV14 dc14 pm14 cd14 ct14 : Value}
    {f15 : Addr} {od15 an15 : Option Addr} {sl15 : Array (Option Value)} {oc15 kV15 dc15 pm15 cd15 ct15 : Value}
    {f16 : Addr} {od16 an16 : Option Addr} {sl16 : Array (Option Value)} {oc16 kV16 dc16 pm16 cd16 ct16 : Value}
    {CShareError : Addr}
    {CNoFraction : Addr}
    {CNotBelow : Addr}
    (a0 : PySem.W.nsIn K mainGlobals "see" = some (some (.ref f0)))
    (l0 : K.lookup f0 = some ⟨oc0, od0, .func (PySem.W.fnOf "see" "see" (defArgs s_see) (defBody s_see) (defScope s_see) .none kV0 dc0 pm0 an0 cd0 ct0), sl0⟩)
    (c0 : PySem.W.codeIn K cd0 "see" = true)
    (k0 : PySem.W.keepIn K (.ref f0) = true)
    (a1 : PySem.W.nsIn K mainGlobals "common" = some (some (.ref f1)))
    (l1 : K.lookup f1 = some ⟨oc1, od1, .func (PySem.W.fnOf "common" "common" (defArgs s_common) (defBody s_common) (defScope s_common) .none kV1 dc1 pm1 an1 cd1 ct1), sl1⟩)
    (c1 : PySem.W.codeIn K cd1 "common" = true)
    (k1 : PySem.W.keepIn K (.ref f1) = true)
    (a2 : PySem.W.nsIn K mainGlobals "lowest" = some (some (.ref f2)))
    (l2 : K.lookup f2 = some ⟨oc2, od2, .func (PySem.W.fnOf "lowest" "lowest" (defArgs s_lowest) (defBody s_lowest) (defScope s_lowest) .none kV2 dc2 pm2 an2 cd2 ct2), sl2⟩)
    (c2 : PySem.W.codeIn K cd2 "lowest" = true)
    (k2 : PySem.W.keepIn K (.ref f2) = true)
    (a3 : PySem.W.nsIn K mainGlobals "see_below" = some (some (.ref f3)))
    (l3 : K.lookup f3 = some ⟨oc3, od3, .func (PySem.W.fnOf "see_below" "see_below" (defArgs s_see_below) (defBody s_see_below) (defScope s_see_below) .none kV3 dc3 pm3 an3 cd3 ct3), sl3⟩)
    (c3 : PySem.W.codeIn K cd3 "see_below" = true)
    (k3 : PySem.W.keepIn K (.ref f3) = true)
    (a4 : PySem.W.nsIn K mainGlobals "divisors" = some (some (.ref f4)))
    (l4 : K.lookup f4 = some ⟨oc4, od4, .func (PySem.W.fnOf "divisors" "divisors" (defArgs s_divisors) (defBody s_divisors) (defScope s_divisors) .none kV4 dc4 pm4 an4 cd4 ct4), sl4⟩)
    (c4 : PySem.W.codeIn K cd4 "divisors" = true)
    (k4 : PySem.W.keepIn K (.ref f4) = true)
    (a5 : PySem.W.nsIn K mainGlobals "sums_of" = some (some (.ref f5)))
    (l5 : K.lookup f5 = some ⟨oc5, od5, .func (PySem.W.fnOf "sums_of" "sums_of" (defArgs s_sums_of) (defBody s_sums_of) (defScope s_sums_of) .none kV5 dc5 pm5 an5 cd5 ct5), sl5⟩)
    (c5 : PySem.W.codeIn K cd5 "sums_of" = true)
    (k5 : PySem.W.keepIn K (.ref f5) = true)
    (a6 : PySem.W.nsIn K mainGlobals "parts" = some (some (.ref f6)))
    (l6 : K.lookup f6 = some ⟨oc6, od6, .func (PySem.W.fnOf "parts" "parts" (defArgs s_parts) (defBody s_parts) (defScope s_parts) .none kV6 dc6 pm6 an6 cd6 ct6), sl6⟩)
    (c6 : PySem.W.codeIn K cd6 "parts" = true)
    (k6 : PySem.W.keepIn K (.ref f6) = true)
    (a7 : PySem.W.nsIn K mainGlobals "goes_by" = some (some (.ref f7)))
    (l7 : K.lookup f7 = some ⟨oc7, od7, .func (PySem.W.fnOf "goes_by" "goes_by" (defArgs s_goes_by) (defBody s_goes_by) (defScope s_goes_by) .none kV7 dc7 pm7 an7 cd7 ct7), sl7⟩)
    (c7 : PySem.W.codeIn K cd7 "goes_by" = true)
    (k7 : PySem.W.keepIn K (.ref f7) = true)
    (a8 : PySem.W.nsIn K mainGlobals "_law_cell_at" = some (some (.ref f8)))
    (l8 : K.lookup f8 = some ⟨oc8, od8, .func (PySem.W.fnOf "_law_cell_at" "_law_cell_at" (defArgs s_law_cell_at) (defBody s_law_cell_at) (defScope s_law_cell_at) .none kV8 dc8 pm8 an8 cd8 ct8), sl8⟩)
    (c8 : PySem.W.codeIn K cd8 "_law_cell_at" = true)
    (k8 : PySem.W.keepIn K (.ref f8) = true)
    (a9 : PySem.W.nsIn K mainGlobals "_law_whole" = some (some (.ref f9)))
    (l9 : K.lookup f9 = some ⟨oc9, od9, .func (PySem.W.fnOf "_law_whole" "_law_whole" (defArgs s_law_whole) (defBody s_law_whole) (defScope s_law_whole) .none kV9 dc9 pm9 an9 cd9 ct9), sl9⟩)
    (c9 : PySem.W.codeIn K cd9 "_law_whole" = true)
    (k9 : PySem.W.keepIn K (.ref f9) = true)
    (a10 : PySem.W.nsIn K mainGlobals "_law_common" = some (some (.ref f10)))
    (l10 : K.lookup f10 = some ⟨oc10, od10, .func (PySem.W.fnOf "_law_common" "_law_common" (defArgs s_law_common) (defBody s_law_common) (defScope s_law_common) .none kV10 dc10 pm10 an10 cd10 ct10), sl10⟩)
    (c10 : PySem.W.codeIn K cd10 "_law_common" = true)
    (k10 : PySem.W.keepIn K (.ref f10) = true)
    (a11 : PySem.W.nsIn K mainGlobals "_law_lowest" = some (some (.ref f11)))
    (l11 : K.lookup f11 = some ⟨oc11, od11, .func (PySem.W.fnOf "_law_lowest" "_law_lowest" (defArgs s_law_lowest) (defBody s_law_lowest) (defScope s_law_lowest) .none kV11 dc11 pm11 an11 cd11 ct11), sl11⟩)
    (c11 : PySem.W.codeIn K cd11 "_law_lowest" = true)
    (k11 : PySem.W.keepIn K (.ref f11) = true)
    (a12 : PySem.W.nsIn K mainGlobals "_law_sum" = some (some (.ref f12)))
    (l12 : K.lookup f12 = some ⟨oc12, od12, .func (PySem.W.fnOf "_law_sum" "_law_sum" (defArgs s_law_sum) (defBody s_law_sum) (defScope s_law_sum) .none kV12 dc12 pm12 an12 cd12 ct12), sl12⟩)
    (c12 : PySem.W.codeIn K cd12 "_law_sum" = true)
    (k12 : PySem.W.keepIn K (.ref f12) = true)
    (a13 : PySem.W.nsIn K mainGlobals "_law_list" = some (some (.ref f13)))
    (l13 : K.lookup f13 = some ⟨oc13, od13, .func (PySem.W.fnOf "_law_list" "_law_list" (defArgs s_law_list) (defBody s_law_list) (defScope s_law_list) .none kV13 dc13 pm13 an13 cd13 ct13), sl13⟩)
    (c13 : PySem.W.codeIn K cd13 "_law_list" = true)
    (k13 : PySem.W.keepIn K (.ref f13) = true)
    (a14 : PySem.W.nsIn K mainGlobals "_law_parts" = some (some (.ref f14)))
    (l14 : K.lookup f14 = some ⟨oc14, od14, .func (PySem.W.fnOf "_law_parts" "_law_parts" (defArgs s_law_parts) (defBody s_law_parts) (defScope s_law_parts) .none kV14 dc14 pm14 an14 cd14 ct14), sl14⟩)
    (c14 : PySem.W.codeIn K cd14 "_law_parts" = true)
    (k14 : PySem.W.keepIn K (.ref f14) = true)
    (a15 : PySem.W.nsIn K mainGlobals "_law_due" = some (some (.ref f15)))
    (l15 : K.lookup f15 = some ⟨oc15, od15, .func (PySem.W.fnOf "_law_due" "_law_due" (defArgs s_law_due) (defBody s_law_due) (defScope s_law_due) .none kV15 dc15 pm15 an15 cd15 ct15), sl15⟩)
    (c15 : PySem.W.codeIn K cd15 "_law_due" = true)
    (k15 : PySem.W.keepIn K (.ref f15) = true)
    (a16 : PySem.W.nsIn K mainGlobals "law" = some (some (.ref f16)))
    (l16 : K.lookup f16 = some ⟨oc16, od16, .func (PySem.W.fnOf "law" "law" (defArgs s_law) (defBody s_law) (defScope s_law) .none kV16 dc16 pm16 an16 cd16 ct16), sl16⟩)
    (c16 : PySem.W.codeIn K cd16 "law" = true)
    (k16 : PySem.W.keepIn K (.ref f16) = true)
    (z0 : PySem.W.nsIn K mainGlobals "len" = some none)
    (z1 : PySem.W.nsIn K mainGlobals "range" = some none)
    (z2 : PySem.W.nsIn K mainGlobals "min" = some none)
    (z3 : PySem.W.nsIn K mainGlobals "max" = some none)
    (z4 : PySem.W.nsIn K mainGlobals "sum" = some none)
    (z5 : PySem.W.nsIn K mainGlobals "sorted" = some none)
    (z6 : PySem.W.nsIn K mainGlobals "set" = some none)
    (z7 : PySem.W.nsIn K mainGlobals "dict" = some none)
    (z8 : PySem.W.nsIn K mainGlobals "list" = some none)
    (z9 : PySem.W.nsIn K mainGlobals "str" = some none)
    (z10 : PySem.W.nsIn K mainGlobals "int" = some none)
    (z11 : PySem.W.nsIn K mainGlobals "isinstance" = some none)
    (z12 : PySem.W.nsIn K mainGlobals "bool" = some none)
    (z13 : PySem.W.nsIn K mainGlobals "tuple" = some none)
    (z14 : PySem.W.nsIn K mainGlobals "ValueError" = some none)
    (nShareError : PySem.W.nsIn K mainGlobals "ShareError" = some (some (.ref CShareError)))
    (e0ShareError : PySem.W.excIn K CShareError veT "ValueError.__new__" = true)
    (e1ShareError : PySem.W.keepIn K (.ref CShareError) = true)
    (e2ShareError : PySem.W.subIn K (.ref CShareError) (.type "BaseException") = some true)
    (e3ShareError : PySem.W.typeIn K (.ref CShareError) = some (.type "type"))
    (nNoFraction : PySem.W.nsIn K mainGlobals "NoFraction" = some (some (.ref CNoFraction)))
    (e0NoFraction : PySem.W.excIn K CNoFraction veT "ValueError.__new__" = true)
    (e1NoFraction : PySem.W.keepIn K (.ref CNoFraction) = true)
    (e2NoFraction : PySem.W.subIn K (.ref CNoFraction) (.type "BaseException") = some true)
    (e3NoFraction : PySem.W.typeIn K (.ref CNoFraction) = some (.type "type"))
    (nNotBelow : PySem.W.nsIn K mainGlobals "NotBelow" = some (some (.ref CNotBelow)))
    (e0NotBelow : PySem.W.excIn K CNotBelow veT "ValueError.__new__" = true)
    (e1NotBelow : PySem.W.keepIn K (.ref CNotBelow) = true)
    (e2NotBelow : PySem.W.subIn K (.ref CNotBelow) (.type "BaseException") = some true)
    (e3NotBelow : PySem.W.typeIn K (.ref CNotBelow) = some (.type "type"))
    : ∃ fd : FuncData, (∀ (s : Shared) (v : Value), BindsTo s fd ⟨[v], []⟩ [("script", v)]) ∧ ∀ base : Heap, K.In base → base.Ns mainGlobals mg → FnOk l.prog w K mg base CX0 4 fa fd ["script"] (sp_law K) := by
  have ef := hfa.symm.trans (PySem.W.mg_of X G a16)
  cases ef
  have B : Bi mg := ⟨PySem.W.mg_none_of X G z0, PySem.W.mg_none_of X G z1, PySem.W.mg_none_of X G z2, PySem.W.mg_none_of X G z3, PySem.W.mg_none_of X G z4, PySem.W.mg_none_of X G z5, PySem.W.mg_none_of X G z6, PySem.W.mg_none_of X G z7, PySem.W.mg_none_of X G z8, PySem.W.mg_none_of X G z9, PySem.W.mg_none_of X G z10, PySem.W.mg_none_of X G z11, PySem.W.mg_none_of X G z12, PySem.W.mg_none_of X G z13, PySem.W.mg_none_of X G z14⟩
  have Er : ErrOk K mg ⟨CShareError, CNoFraction, CNotBelow, 0, 0, 0⟩ := ⟨⟨PySem.W.mg_of X G nShareError, e0ShareError, e1ShareError, e2ShareError, e3ShareError⟩, ⟨PySem.W.mg_of X G nNoFraction, e0NoFraction, e1NoFraction, e2NoFraction, e3NoFraction⟩, ⟨PySem.W.mg_of X G nNotBelow, e0NotBelow, e1NotBelow, e2NotBelow, e3NotBelow⟩⟩
  have S_see : Stands K mg "see" s_see := ⟨_, _, fun_mk (st := s_see) l0 c0 k0, PySem.W.mg_of X G a0⟩
  have S_common : Stands K mg "common" s_common := ⟨_, _, fun_mk (st := s_common) l1 c1 k1, PySem.W.mg_of X G a1⟩
  have S_lowest : Stands K mg "lowest" s_lowest := ⟨_, _, fun_mk (st := s_lowest) l2 c2 k2, PySem.W.mg_of X G a2⟩
  have S_see_below : Stands K mg "see_below" s_see_below := ⟨_, _, fun_mk (st := s_see_below) l3 c3 k3, PySem.W.mg_of X G a3⟩
  have S_divisors : Stands K mg "divisors" s_divisors := ⟨_, _, fun_mk (st := s_divisors) l4 c4 k4, PySem.W.mg_of X G a4⟩
  have S_sums_of : Stands K mg "sums_of" s_sums_of := ⟨_, _, fun_mk (st := s_sums_of) l5 c5 k5, PySem.W.mg_of X G a5⟩
  have S_parts : Stands K mg "parts" s_parts := ⟨_, _, fun_mk (st := s_parts) l6 c6 k6, PySem.W.mg_of X G a6⟩
  have S_goes_by : Stands K mg "goes_by" s_goes_by := ⟨_, _, fun_mk (st := s_goes_by) l7 c7 k7, PySem.W.mg_of X G a7⟩
  have S_law_cell_at : Stands K mg "_law_cell_at" s_law_cell_at := ⟨_, _, fun_mk (st := s_law_cell_at) l8 c8 k8, PySem.W.mg_of X G a8⟩
  have S_law_whole : Stands K mg "_law_whole" s_law_whole := ⟨_, _, fun_mk (st := s_law_whole) l9 c9 k9, PySem.W.mg_of X G a9⟩
  have S_law_common : Stands K mg "_law_common" s_law_common := ⟨_, _, fun_mk (st := s_law_common) l10 c10 k10, PySem.W.mg_of X G a10⟩
  have S_law_lowest : Stands K mg "_law_lowest" s_law_lowest := ⟨_, _, fun_mk (st := s_law_lowest) l11 c11 k11, PySem.W.mg_of X G a11⟩
  have S_law_sum : Stands K mg "_law_sum" s_law_sum := ⟨_, _, fun_mk (st := s_law_sum) l12 c12 k12, PySem.W.mg_of X G a12⟩
  have S_law_list : Stands K mg "_law_list" s_law_list := ⟨_, _, fun_mk (st := s_law_list) l13 c13 k13, PySem.W.mg_of X G a13⟩
  have S_law_parts : Stands K mg "_law_parts" s_law_parts := ⟨_, _, fun_mk (st := s_law_parts) l14 c14 k14, PySem.W.mg_of X G a14⟩
  have S_law_due : Stands K mg "_law_due" s_law_due := ⟨_, _, fun_mk (st := s_law_due) l15 c15 k15, PySem.W.mg_of X G a15⟩
  refine ⟨PySem.W.fnOf "law" "law" (defArgs s_law) (defBody s_law) (defScope s_law) .none kV16 dc16 pm16 an16 cd16 ct16, fun s v => .of_eq rfl, fun base _ _ => ?_⟩
  have O_see := ok_see (P := l.prog) (w := w) (base := base) S_see B Er 
  have O_common := ok_common (P := l.prog) (w := w) (base := base) S_common B Er 
  have O_lowest := ok_lowest (P := l.prog) (w := w) (base := base) S_lowest B Er O_see O_common
  have O_see_below := ok_see_below (P := l.prog) (w := w) (base := base) S_see_below B Er O_see
  have O_divisors := ok_divisors (P := l.prog) (w := w) (base := base) S_divisors B Er 
  have O_sums_of := ok_sums_of (P := l.prog) (w := w) (base := base) S_sums_of B Er 
  have O_parts := ok_parts (P := l.prog) (w := w) (base := base) S_parts B Er O_divisors O_sums_of
  have O_goes_by := ok_goes_by (P := l.prog) (w := w) (base := base) S_goes_by B Er O_see_below O_lowest O_parts
  have O_law_cell_at := ok_law_cell_at (P := l.prog) (w := w) (base := base) S_law_cell_at B Er 
  have O_law_whole := ok_law_whole (P := l.prog) (w := w) (base := base) S_law_whole B Er 
  have O_law_common := ok_law_common (P := l.prog) (w := w) (base := base) S_law_common B Er 
  have O_law_lowest := ok_law_lowest (P := l.prog) (w := w) (base := base) S_law_lowest B Er O_law_common
  have O_law_sum := ok_law_sum (P := l.prog) (w := w) (base := base) S_law_sum B Er O_law_lowest
  have O_law_list := ok_law_list (P := l.prog) (w := w) (base := base) S_law_list B Er O_law_whole
  have O_law_parts := ok_law_parts (P := l.prog) (w := w) (base := base) S_law_parts B Er 
  have O_law_due := ok_law_due (P := l.prog) (w := w) (base := base) S_law_due B Er O_law_parts
  exact ok_law (P := l.prog) (w := w) (base := base) (fun_mk (st := s_law) l16 c16 k16) B Er O_law_lowest O_law_due O_goes_by O_law_cell_at O_law_whole O_law_list O_law_sum
end U
open PySem PySem.W PyProof.Rows
set_option maxHeartbeats 0 in
theorem PySem.Challenge.cw_unitshares_k10_goes_by_holds : PySem.Challenge.rw_unitshares_k10_goes_by.Holds := by
  w_on; o_law; k_head; (case hw => w_witness2)
  k_fill
  refine L2.walk_of (l := PySem.Challenge.rw_unitshares_k10_goes_by) (n := 63) (k := 4) (x := "script") (CX := fun _ => L2.CX0) (sp := fun w => U.sp_law _) rfl (by decide) rfl ⟨rfl, by decide, by decide⟩ (fun w h Y => PySem.W.kIn_of Y) ?F (fun _ _ a ns hl _ hS => ⟨a, ns, rfl, hS, hl, fun _ => rfl⟩) (fun _ _ _ _ _ h => h)
  case F =>
    intro w mg fa h KX G hmg
    refine' U.all_mk KX G hmg ?a0 ?l0 ?c0 ?k0 ?a1 ?l1 ?c1 ?k1 ?a2 ?l2 ?c2 ?k2 ?a3 ?l3 ?c3 ?k3 ?a4 ?l4 ?c4 ?k4 ?a5 ?l5 ?c5 ?k5 ?a6 ?l6 ?c6 ?k6 ?a7 ?l7 ?c7 ?k7 ?a8 ?l8 ?c8 ?k8 ?a9 ?l9 ?c9 ?k9 ?a10 ?l10 ?c10 ?k10 ?a11 ?l11 ?c11 ?k11 ?a12 ?l12 ?c12 ?k12 ?a13 ?l13 ?c13 ?k13 ?a14 ?l14 ?c14 ?k14 ?a15 ?l15 ?c15 ?k15 ?a16 ?l16 ?c16 ?k16 ?z0 ?z1 ?z2 ?z3 ?z4 ?z5 ?z6 ?z7 ?z8 ?z9 ?z10 ?z11 ?z12 ?z13 ?z14 ?nShareError ?e0ShareError ?e1ShareError ?e2ShareError ?e3ShareError ?nNoFraction ?e0NoFraction ?e1NoFraction ?e2NoFraction ?e3NoFraction ?nNotBelow ?e0NotBelow ?e1NotBelow ?e2NotBelow ?e3NotBelow
    (case a0 => k_is)
    (case l0 => k_is)
    (case c0 => k_is)
    (case k0 => k_is)
    (case a1 => k_is)
    (case l1 => k_is)
    (case c1 => k_is)
    (case k1 => k_is)
    (case a2 => k_is)
    (case l2 => k_is)
    (case c2 => k_is)
    (case k2 => k_is)
    (case a3 => k_is)
    (case l3 => k_is)
    (case c3 => k_is)
    (case k3 => k_is)
    (case a4 => k_is)
    (case l4 => k_is)
    (case c4 => k_is)
    (case k4 => k_is)
    (case a5 => k_is)
    (case l5 => k_is)
    (case c5 => k_is)
    (case k5 => k_is)
    (case a6 => k_is)
    (case l6 => k_is)
    (case c6 => k_is)
    (case k6 => k_is)
    (case a7 => k_is)
    (case l7 => k_is)
    (case c7 => k_is)
    (case k7 => k_is)
    (case a8 => k_is)
    (case l8 => k_is)
    (case c8 => k_is)
    (case k8 => k_is)
    (case a9 => k_is)
    (case l9 => k_is)
    (case c9 => k_is)
    (case k9 => k_is)
    (case a10 => k_is)
    (case l10 => k_is)
    (case c10 => k_is)
    (case k10 => k_is)
    (case a11 => k_is)
    (case l11 => k_is)
    (case c11 => k_is)
    (case k11 => k_is)
    (case a12 => k_is)
    (case l12 => k_is)
    (case c12 => k_is)
    (case k12 => k_is)
    (case a13 => k_is)
    (case l13 => k_is)
    (case c13 => k_is)
    (case k13 => k_is)
    (case a14 => k_is)
    (case l14 => k_is)
    (case c14 => k_is)
    (case k14 => k_is)
    (case a15 => k_is)
    (case l15 => k_is)
    (case c15 => k_is)
    (case k15 => k_is)
    (case a16 => k_is)
    (case l16 => k_is)
    (case c16 => k_is)
    (case k16 => k_is)
    (case z0 => k_is)
    (case z1 => k_is)
    (case z2 => k_is)
    (case z3 => k_is)
    (case z4 => k_is)
    (case z5 => k_is)
    (case z6 => k_is)
    (case z7 => k_is)
    (case z8 => k_is)
    (case z9 => k_is)
    (case z10 => k_is)
    (case z11 => k_is)
    (case z12 => k_is)
    (case z13 => k_is)
    (case z14 => k_is)
    (case nShareError => k_is)
    (case e0ShareError => k_exc)
    (case e1ShareError => k_is)
    (case e2ShareError => k_is)
    (case e3ShareError => k_is)
    (case nNoFraction => k_is)
    (case e0NoFraction => k_exc)
    (case e1NoFraction => k_is)
    (case e2NoFraction => k_is)
    (case e3NoFraction => k_is)
    (case nNotBelow => k_is)
    (case e0NotBelow => k_exc)
    (case e1NotBelow => k_is)
    (case e2NotBelow => k_is)
    (case e3NotBelow => k_is)
