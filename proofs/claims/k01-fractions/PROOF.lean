import PyProof.Rows.All
import Wide.All
import OpenK.AllK
import Wide.FinOn
import HandS.ForMost
import HandS.ForExc
import HandS.More
import HandS.Wide
import HandS.WideBits
import HandS.IsInst
import HandS.SortInts
import HandS.SetFor
import HandS.Strs
import HandS.Zip
import HandS.HotCalls
import HandS.ExcIs
import PySem.Challenge.RW_unitshares_k01_fractions
set_option Elab.async false
set_option linter.all false
set_option maxRecDepth 100000
set_option maxHeartbeats 4000000
namespace U
open PySem PySem.Spec PyProof.Rows L2
def topS (i : Nat) : Stmt := PySem.Challenge.pw_unitshares_k01_fractions.main.body.getD i (.Pass ⟨0, 0, 0, 0⟩)
/-! ### how a def, a class, a built-in stand -/
/-- the module's name x holds the def st -/
def Stands (K : PySem.W.Frag) (mg : Str → Option Value) (x : Str) (st : Stmt) : Prop := ∃ f fd, Fun K x x st f fd ∧ mg x = some (.ref f)
/-- the def x keeps the promise sp -/
def Keeps (P : Program) (w : World) (K : PySem.W.Frag) (mg : Str → Option Value) (base : Heap) (k : Nat) (x : Str) (ps : List Str) (sp : Sp) : Prop :=
  ∃ f fd, FnOk P w K mg base (L2.CX P w) k f fd ps sp ∧ Binds K fd ps [] ∧ mg x = some (.ref f) ∧ PySem.W.keepIn K (.ref f) = true
/-- nothing leaves, so whatever leaves is as one likes -/
theorem toX {P : Program} {w : World} {K : PySem.W.Frag} {mg : Str → Option Value} {base : Heap} {k : Nat} {f : Addr} {fd : FuncData} {ps : List Str} {sp : Sp} (F : FnOk P w K mg base CX0 k f fd ps sp) : FnOk P w K mg base (L2.CX P w) k f fd ps sp :=
  ⟨F.len, fun A outer s H args us vs Q E hr e0 hb r h => codeAny_mono (F.run A outer s H args us vs Q E hr e0 hb r h) fun r s' q => by
    cases r with
    | error e => exact False.elim q
    | ok fl => cases fl <;> exact q⟩
structure Bi (mg : Str → Option Value) : Prop where
  len : mg "len" = none
  range : mg "range" = none
  min : mg "min" = none
  max : mg "max" = none
  sum : mg "sum" = none
  sorted : mg "sorted" = none
  set : mg "set" = none
  dict : mg "dict" = none
  list : mg "list" = none
  str : mg "str" = none
  int : mg "int" = none
  isinstance : mg "isinstance" = none
  bool : mg "bool" = none
  tuple : mg "tuple" = none
  ValueError : mg "ValueError" = none
abbrev veT : List Value := [.type "ValueError", .type "Exception", .type "BaseException", .type "object"]
/-! ### heaps -/
theorem same_new {H : Hp} {p : Addr} {o : HO} (h : H p = none) : Same H (upd H p o) := fun b x e => by
  rw [upd_ne (ne_of_none e h)]
  exact e
/-- an object that H does not know is written -/
theorem same_mut {H H' : Hp} {p : Addr} {o : HO} (s : Same H H') (h : H p = none) : Same H (upd H' p o) := fun b x e => by
  rw [upd_ne (ne_of_none e h)]
  exact s b x e
theorem same_tup {K : PySem.W.Frag} {H H' : Hp} {a : Addr} {xs : List V} (e : Same H H') (h : SqT K H a xs) : SqT K H' a xs := by
  rcases h with (h | ⟨o, h⟩) | h
  · exact .inl (.inl (e _ _ h))
  · exact .inl (.inr ⟨o, e _ _ h⟩)
  · exact .inr h
theorem ty_list {K : PySem.W.Frag} {H : Hp} {a : Addr} {xs : List V} (h : SqL K H a xs) : TyX K H (.ref a) (.type "list") := by
  rcases h with (h | ⟨o, h⟩) | ⟨o, _, _, h, c, _⟩
  · exact .base (.lst h)
  · exact .base (.frz h)
  · exact .kList h c
theorem ty_tup {K : PySem.W.Frag} {H : Hp} {a : Addr} {xs : List V} (h : SqT K H a xs) : TyX K H (.ref a) (.type "tuple") := by
  rcases h with (h | ⟨o, h⟩) | ⟨o, _, _, h, c, _⟩
  · exact .base (.tup h)
  · exact .fTuple h
  · exact .kTuple h c
theorem szl {n : Nat} (h : n ≤ 16000000) : n ≤ sizeLine := Nat.le_trans h (by decide)
theorem szl_lt {n : Nat} (h : n < 16000000) : n < sizeLine := Nat.lt_of_lt_of_le h (by decide)
theorem get_map {α β : Type} {f : α → β} {l : List α} {i : Nat} {x : α} (h : l[i]? = some x) : (l.map f)[i]? = some (f x) := by
  rw [List.getElem?_map, h] <;> rfl
theorem of_get_map {α β : Type} {f : α → β} {l : List α} {i : Nat} {y : β} (h : (l.map f)[i]? = some y) : ∃ x, l[i]? = some x ∧ y = f x := by
  rw [List.getElem?_map] at h
  cases e : l[i]? with
  | none => rw [e] at h; cases h
  | some x => rw [e] at h; exact ⟨x, rfl, (Option.some.inj h).symm⟩
theorem take_snoc {α : Type} {l : List α} {i : Nat} {x : α} (h : l[i]? = some x) : l.take (i + 1) = l.take i ++ [x] := by
  rw [List.take_add_one, h] <;> rfl
theorem lt_of_get {α : Type} {l : List α} {i : Nat} {x : α} (h : l[i]? = some x) : i < l.length := (List.getElem?_eq_some_iff.mp h).1
/-- 1, 2, .., n -/
def upto (n : Nat) : List Int := (List.range n).map fun (i : Nat) => 1 + (i : Int)
theorem upto_succ (n : Nat) : upto (n + 1) = upto n ++ [1 + (n : Int)] := by
  unfold upto
  rw [List.range_succ, List.map_append] <;> rfl
theorem upto_length (n : Nat) : (upto n).length = n := by
  unfold upto
  rw [List.length_map, List.length_range]
theorem mem_upto {n : Nat} {x : Int} : x ∈ upto n ↔ 1 ≤ x ∧ x ≤ n := by
  unfold upto
  rw [List.mem_map]
  constructor
  · rintro ⟨i, hi, rfl⟩
    have := List.mem_range.mp hi
    omega
  · rintro ⟨h1, h2⟩
    exact ⟨(x - 1).toNat, List.mem_range.mpr (by omega), by omega⟩
theorem cw_mul {i j : Int} {a b : Nat} (ha : i.natAbs < 2 ^ a) (hb : j.natAbs < 2 ^ b) (h0 : 0 < a := by decide) (h1 : 0 < b := by decide) (h : a + b ≤ 1000000 := by decide) : CMulW i j := wide_mul ha hb h0 h1 h
/-- // by a positive divisor, where it is told that C divides by itself -/
theorem op_fdivP {X : Cx} : OpR X (binaryOp .FloorDiv) (rI CDivP fun i j => .int (i / j)) := opI fun i j _ _ _ _ _ hc q => by
  have h1 : (0 : Int) < j := hc.1
  exact floordiv_int (by omega) (by rw [Int.fdiv_eq_ediv_of_nonneg i (by omega)]; exact q) (.inl hc.2)
theorem cdp_of {i j : Int} (h : CDivW i j) : CDivP i j := ⟨h.1, PyProof.noPylong_of_log2 h.2⟩
theorem cw_div {i j : Int} {b : Nat} (h : 0 < j) (hb : j.natAbs < 2 ^ b) (h0 : 0 < b := by decide) (h9 : b ≤ 9000 := by decide) : CDivP i j := cdp_of (wide_div h hb h0 h9)
theorem fil_yes {α : Type} {q : α → Prop} [DecidablePred q] {l : List α} {x : α} (h : q x) : (l ++ [x]).filter (fun k => decide (q k)) = l.filter (fun k => decide (q k)) ++ [x] := by
  rw [List.filter_append]
  congr 1
  simp [h]
theorem fil_no {α : Type} {q : α → Prop} [DecidablePred q] {l : List α} {x : α} (h : ¬ q x) : (l ++ [x]).filter (fun k => decide (q k)) = l.filter (fun k => decide (q k)) := by
  rw [List.filter_append]
  simp [h]
/-- what holds behind a statement, its ways joined -/
theorem cut {t R : TS} {D : Ends} {σ : L2.St} {H : Hp} (Pm : L2.St → Hp → Prop) (h1 : ∀ (R : TS) (D : Ends), (∀ σ' H', Pm σ' H' → R D σ' H') → tSeq t R D σ H) (h2 : ∀ σ' H', Pm σ' H' → R D σ' H') : tSeq t R D σ H := h1 R D h2
theorem snoc_ind {α : Type} (P : List α → Prop) (l : List α) (h0 : P []) (hs : ∀ l x, P l → P (l ++ [x])) : P l := by
  have : ∀ r : List α, P r.reverse := fun r => by
    induction r with
    | nil => exact h0
    | cons x r ih =>
      rw [List.reverse_cons]
      exact hs _ _ ih
  have := this l.reverse
  rwa [List.reverse_reverse] at this

/-! ### sizes, by bits -/
/-- x has at most n bits -/
def Sz (n : Nat) (x : Int) : Prop := x.natAbs < 2 ^ n
theorem Sz.mono {a b : Nat} {x : Int} (h : Sz a x) (l : a ≤ b := by decide) : Sz b x := Nat.lt_of_lt_of_le h (Nat.pow_le_pow_right (by decide) l)
theorem Sz.le {a : Nat} {x y : Int} (h : Sz a y) (h0 : 0 ≤ x) (l : x ≤ y) : Sz a x := Nat.lt_of_le_of_lt (by omega : x.natAbs ≤ y.natAbs) h
theorem Sz.mul {a b : Nat} {x y : Int} (h : Sz a x) (g : Sz b y) : Sz (a + b) (x * y) := by
  unfold Sz
  rw [Int.natAbs_mul, Nat.pow_add]
  exact Nat.mul_lt_mul'' h g
theorem Sz.add {a : Nat} {x y : Int} (h : Sz a x) (g : Sz a y) : Sz (a + 1) (x + y) := by
  have h : x.natAbs < 2 ^ a := h
  have g : y.natAbs < 2 ^ a := g
  show (x + y).natAbs < 2 ^ (a + 1)
  rw [Nat.pow_succ]
  omega
theorem Sz.sub {a : Nat} {x y : Int} (h : Sz a x) (g : Sz a y) : Sz (a + 1) (x - y) := by
  have h : x.natAbs < 2 ^ a := h
  have g : y.natAbs < 2 ^ a := g
  show (x - y).natAbs < 2 ^ (a + 1)
  rw [Nat.pow_succ]
  omega
theorem Sz.cm {a b : Nat} {i j : Int} (ha : Sz a i) (hb : Sz b j) (h0 : 0 < a := by decide) (h1 : 0 < b := by decide) (h : a + b ≤ 1000000 := by decide) : CMulW i j := wide_mul ha hb h0 h1 h
theorem Sz.cd {b : Nat} {i j : Int} (hb : Sz b j) (h : 0 < j) (h0 : 0 < b := by decide) (h9 : b ≤ 9000 := by decide) : CDivP i j := cw_div h hb h0 h9
theorem Sz.lit {a : Nat} {x : Int} (h : x.natAbs < 2 ^ a := by decide) : Sz a x := h
theorem Sz.one {a : Nat} (h : 0 < a := by decide) : Sz a 1 := Nat.one_lt_two_pow (by omega)
theorem Sz.zero {a : Nat} : Sz a 0 := Nat.pow_pos (by decide)
/-- a dividend not much greater than its divisor -/
theorem cdp_near {i j : Int} {k : Nat} (hj : 0 < j) (h : i.natAbs ≤ 2 ^ k * j.natAbs) (hk : k ≤ 3000 := by decide) : CDivP i j := by
  refine divp_ok hj ?_
  have b1 : j.natAbs < 2 ^ (j.natAbs.log2 + 1) := Nat.lt_log2_self
  have b2 : i.natAbs < 2 ^ (k + (j.natAbs.log2 + 1)) := by
    rw [Nat.pow_add]
    exact Nat.lt_of_le_of_lt h (Nat.mul_lt_mul_of_pos_left b1 (Nat.pow_pos (by decide)))
  have b3 := PyProof.Rows.intBits_le b2
  have b4 : Builtin.Int.intBits j = j.natAbs.log2 + 1 := by
    unfold Builtin.Int.intBits
    rw [if_neg (by simpa using (show j ≠ 0 by omega))]
  omega

--: math = sz
/-! ### lowest terms -/
def gc (a b : Int) : Int := ((Int.gcd a b : Nat) : Int)
def low (t b : Int) : Int × Int := (t / gc t b, b / gc t b)
theorem gc_nn (a b : Int) : 0 ≤ gc a b := Int.natCast_nonneg _
theorem gc_pos {t b : Int} (h : 1 ≤ b) : 0 < gc t b := by
  have : Int.gcd t b ≠ 0 := fun z => by
    have := (Int.gcd_eq_zero_iff.mp z).2
    omega
  unfold gc
  omega
theorem gc_dl (t b : Int) : gc t b ∣ t := Int.gcd_dvd_left ..
theorem gc_dr (t b : Int) : gc t b ∣ b := Int.gcd_dvd_right ..
theorem gc_le {t b : Int} (h : 1 ≤ b) : gc t b ≤ b := Int.le_of_dvd (by omega) (gc_dr t b)
theorem low_t (t b : Int) : (low t b).1 * gc t b = t := Int.ediv_mul_cancel (gc_dl t b)
theorem low_b (t b : Int) : (low t b).2 * gc t b = b := Int.ediv_mul_cancel (gc_dr t b)
theorem low_bpos {t b : Int} (h : 1 ≤ b) : 1 ≤ (low t b).2 := by
  have g := gc_pos (t := t) h
  have e := low_b t b
  by_cases z : 1 ≤ (low t b).2
  · exact z
  · have : (low t b).2 * gc t b ≤ 0 := Int.mul_nonpos_of_nonpos_of_nonneg (by omega) (by omega)
    omega
theorem low_tnn {t b : Int} (h : 1 ≤ b) (h0 : 0 ≤ t) : 0 ≤ (low t b).1 := Int.ediv_nonneg h0 (gc_nn t b)
theorem low_ble {t b : Int} (h : 1 ≤ b) : (low t b).2 ≤ b := Int.ediv_le_self _ (by omega)
theorem low_tle {t b : Int} (h0 : 0 ≤ t) : (low t b).1 ≤ t := Int.ediv_le_self _ h0
theorem low_cross (t b : Int) : t * (low t b).2 = (low t b).1 * b := by
  have h1 := low_t t b
  have h2 := low_b t b
  calc t * (low t b).2 = (low t b).1 * gc t b * (low t b).2 := by rw [h1]
    _ = (low t b).1 * ((low t b).2 * gc t b) := by rw [Int.mul_assoc, Int.mul_comm (gc t b)]
    _ = (low t b).1 * b := by rw [h2]
theorem low_scale {t b k : Int} (h : 0 < k) : low (t * k) (b * k) = low t b := by
  unfold low gc
  rw [Int.gcd_mul_right, Int.natCast_mul, Int.natAbs_of_nonneg (by omega), Int.mul_ediv_mul_of_pos_left _ _ h, Int.mul_ediv_mul_of_pos_left _ _ h]
theorem low_uniq {t b t' b' : Int} (h : 0 < b) (h' : 0 < b') (e : t * b' = t' * b) : low t b = low t' b' := by
  rw [← low_scale (t := t) (b := b) h', ← low_scale (t := t') (b := b') h, e, Int.mul_comm b b']
theorem low_low {t b : Int} (h : 1 ≤ b) : low (low t b).1 (low t b).2 = low t b :=
  low_uniq (by have := low_bpos (t := t) h; omega) (by omega) (low_cross t b).symm
theorem low_of_eq {t b t' b' : Int} (h : 1 ≤ b) (e : low t b = low t' b') : t * b' = t' * b := by
  have c1 := low_cross t b
  have c2 := low_cross t' b'
  rw [← e] at c2
  have hb := low_bpos (t := t) h
  refine Int.eq_of_mul_eq_mul_right (a := (low t b).2) (by omega) ?_
  calc t * b' * (low t b).2 = t * (low t b).2 * b' := by rw [Int.mul_assoc, Int.mul_comm b', Int.mul_assoc]
    _ = (low t b).1 * b' * b := by rw [c1, Int.mul_assoc, Int.mul_comm b, ← Int.mul_assoc]
    _ = t' * b * (low t b).2 := by rw [← c2, Int.mul_assoc, Int.mul_comm _ b, ← Int.mul_assoc]
theorem gc_step {x y : Int} : gc y (x % y) = gc x y := by
  unfold gc
  rw [Int.gcd_comm x y]
  have h := Int.gcd_add_mul_left_right y (x % y) (x / y)
  rw [Int.emod_add_mul_ediv] at h
  rw [h]
theorem gc_zero {x : Int} (h : 0 ≤ x) : gc x 0 = x := by
  unfold gc
  rw [Int.gcd_zero_right]
  omega
/-- what _law_lowest's two divisions ask -/
theorem low_divs {t b : Int} (hb : 1 ≤ b) (z : Sz 9000 b) : CDivP t (gc t b) ∧ CDivP b (gc t b) := by
  have g := gc_pos (t := t) hb
  have zg : Sz 9000 (gc t b) := z.le (by omega) (gc_le hb)
  exact ⟨zg.cd g, zg.cd g⟩
theorem low_near {t b : Int} (hb : 1 ≤ b) (h1 : Sz 3000 (low t b).1) (h2 : Sz 3000 (low t b).2) : CDivP t (gc t b) ∧ CDivP b (gc t b) := by
  have g := gc_pos (t := t) hb
  have e1 := congrArg Int.natAbs (low_t t b)
  have e2 := congrArg Int.natAbs (low_b t b)
  rw [Int.natAbs_mul] at e1 e2
  have h1 : (low t b).1.natAbs < 2 ^ 3000 := h1
  have h2 : (low t b).2.natAbs < 2 ^ 3000 := h2
  refine ⟨cdp_near (k := 3000) g ?_, cdp_near (k := 3000) g ?_⟩
  · rw [← e1]
    exact Nat.mul_le_mul_right _ (Nat.le_of_lt h1)
  · rw [← e2]
    exact Nat.mul_le_mul_right _ (Nat.le_of_lt h2)

/-! ### pairs of ints, compared -/
theorem dp_pair {K : PySem.W.Frag} {H : Hp} {a : Addr} {t u : Int} (h : SqT K H a [.int t, .int u]) : Dp K H (.ref a) (.tuple [.int t, .int u]) := .tup h (.cons (.int t) (.cons (.int u) .nil))
theorem eqv_pair (t u t' u' : Int) : PyData.eqv (.tuple [.int t, .int u]) (.tuple [.int t', .int u']) = decide (t = t' ∧ u = u') := by
  simp [PyData.eqv, PyData.eqvAll, Bool.decide_and]
  rfl

/-! ### a def that is called where an exception is handled, with that exception; it raises nothing -/
/-- what is asked, by the exception's address, class and dict -/
abbrev SpE := Addr → Value → Option Addr → Sp
structure FnE (P : Program) (w : World) (K : PySem.W.Frag) (mg : Str → Option Value) (base : Heap) (k : Nat) (f : Addr) (fd : FuncData) (ps : List Str) (sp : SpE) : Prop where
  len : ∀ a cls d vs H Q E, sp a cls d vs H Q E → vs.length = ps.length
  run : ∀ (A : Around) (outer : List Env) (s : Shared) (H : Hp) (args : Args) (us : List Value) (vs : List V) (Q : VK) (E : XK) (a : Addr) (oe : Obj) (cls : Value) (d : Option Addr), L2H.RoomH k A → Zc cls d oe → (∃ fs, oe.data = .fields fs) →
    L2H.PinOk outer H s (a, oe) → Env0 P w K mg base A outer s H → BindsTo s fd args (ps.zip us) → Vals vs us → sp a cls d vs H Q E → codeAny (model P w) A (.call (.ref f) args) (CR CX0 outer P w H s Q E) s
/-- how the def x stands and keeps such a promise -/
def KeepsE (P : Program) (w : World) (K : PySem.W.Frag) (mg : Str → Option Value) (base : Heap) (k : Nat) (x : Str) (ps : List Str) (sp : SpE) : Prop :=
  ∃ f fd, FnE P w K mg base k f fd ps sp ∧ Binds K fd ps [] ∧ mg x = some (.ref f) ∧ PySem.W.keepIn K (.ref f) = true
section
variable {P : Program} {w : World} {K : PySem.W.Frag} {mg : Str → Option Value} {base : Heap}
theorem fnE_of {x : Str} {st : Stmt} {f : Addr} {fd : FuncData} {N ps : List Str} {k : Nat} {sp : SpE} (F : Fun K x x st f fd) (S : FnScope N ps (defScope st)) (len : ∀ a cls d vs H Q E, sp a cls d vs H Q E → vs.length = ps.length)
    (body : ∀ (cdv : Value) (A : Around) (outer : List Env) (s : Shared) (H : Hp) (vs : List V) (Q : VK) (E : XK) (a : Addr) (oe : Obj) (cls : Value) (d : Option Addr), Zc cls d oe → (∃ fs, oe.data = .fields fs) → sp a cls d vs H Q E →
      ∃ t, PSs (L2H.cxH CX0 P w K mg base N x (defScope st) f cdv A outer s H E (a, oe)) (defBody st) t ∧ t { nx := fun _ H' => Q .non H', rt := Q } (L2.start N vs) H) : FnE P w K mg base (k + 1) f fd ps sp := by
  obtain ⟨oc, od, kV, doc, pm, an, cdv, ct, osl, rfl, look, code⟩ := F.ex
  refine ⟨len, fun A outer s H args us vs Q E a oe cls d room hz hf pin e0 binds rel want => ?_⟩
  have inK : K.In s.heap := e0.mod.kin.keeps fun b o e => (e0.bs b o e).1
  have unlim : s.heap.NoLimit := e0.mod.nolimit.keeps fun b o e => (e0.bs b o e).1
  have kinds : ∀ y ∈ ps.zip us, (defScope st).names.lookup y.1 = some .local ∨ ((defScope st).names.lookup y.1 = some .cell ∧ ((cellsFrom (s.heap.objs.size + 1) (defScope st).names []).lookup y.1).isSome = true) := by
    rintro ⟨n, v⟩ hy
    rcases S.par n (List.of_mem_zip hy).1 with q | q
    · exact .inl q
    · exact .inr ⟨q, PySem.W.cellsFrom_some _ _ _ (.inl q)⟩
  refine codeAny_call_function room.depth (inK _ _ look) rfl S.co S.gen rfl (PySem.W.codeRec_of inK code) (binds _ _ _ _ ?_)
  refine wpAny_newFunctionEnv_cells S.kind kinds fun env isEnv s1 inCall => ?_
  subst isEnv
  refine ⟨unlim.keeps inCall.toInCall.keep, codeAny_func ?_⟩
  obtain ⟨t, walks, tq⟩ := body cdv A outer s H vs Q E a oe cls d hz hf want
  have I := L2H.inv_startH (CX := CX0) (E := E) S pin e0 (len _ _ _ _ _ _ _ want) rel inCall
  refine wpAny_mono (walks.run [] s1 _ H _ I tq) (fun fl s' ends => ?_) fun e s' ends => ends
  cases fl with
  | ret u =>
    obtain ⟨v, σ', H', J, rv, q⟩ := ends
    exact ⟨v, H', J.os, J.bare, J.base, J.hok, rv, q⟩
  | next =>
    obtain ⟨σ', H', J, q⟩ := ends
    exact ⟨V.non, H', J.os, J.bare, J.base, J.hok, rfl, q⟩
  | brk =>
    obtain ⟨_, _, _, q⟩ := ends
    cases q
  | cont =>
    obtain ⟨_, _, _, q⟩ := ends
    cases q
end
def tCallE (sp : Sp) (t : TA) : TE := fun σ H Q => t σ H fun vs H1 => sp vs H1 Q fun _ _ _ => False
theorem pe_callE {X : Cx} {k : Nat} {f a : Addr} {fd : FuncData} {ps : List Str} {sp : SpE} {x : Str} {p pos : Pos} {e : Expr} {es : List Expr} {t : TA} {oe : Obj} {cls : Value} {d : Option Addr}
    (F : FnE X.prog X.w X.K X.mg X.base k f fd ps sp) (hr : L2H.RoomH k X.A) (hin : (a, oe) ∈ X.pn) (hz : Zc cls d oe) (hf : ∃ fs, oe.data = .fields fs) (hg : Gl X x) (hm : X.mg x = some (.ref f)) (hk : PySem.W.keepIn X.K (.ref f) = true)
    (hb : Binds X.K fd ps []) (ha : PA X (e :: es) t) (hdb : (x == ("__debug__" : Str)) = false := by decide) (he : starEach (e :: es) X.env = (false, eval e X.env) :: starEach es X.env := by rfl) (hpl : (backTo pos (starEach es X.env)).any (·.1) = false := by rfl) :
    PE X (.Call (.Name x p) (e :: es) [] pos) (tCallE (sp a cls d) t) := by
  refine ⟨fun pins s σ H Q I h => wpAny_Call_Name_kw (ld_glob I hg hm ?_ hdb)⟩
  refine PySem.W.callWith_K (h₀ := X.base) I.ok.mod.kin hk (thn (ha.run pos pins s σ H _ I h) fun us s1 ⟨vs, H1, I1, rel, q⟩ => ⟨I1.kIn, ?_⟩) he hpl
  have lens : us.length = ps.length := rel.length.symm.trans (F.len _ _ _ _ _ _ _ q)
  have bind := hb s1 us I1.kIn (by rw [List.append_nil]; exact lens)
  rw [List.append_nil] at bind
  have at1 := I1.pin (a, oe) (List.mem_append_left _ hin)
  have pinned : L2H.PinOk X.stack H1 s1 (a, oe) := ⟨at1.1, at1.2.1, fun m => (List.mem_cons.mp (I1.stkSub a m)).elim at1.2.2.1 at1.2.2.2.1, at1.2.2.2.2⟩
  refine wpAny_call (codeAny_mono (F.run X.A X.stack s1 H1 ⟨us, []⟩ us vs Q _ a oe cls d hr hz hf pinned I1.env0 bind rel q) fun r s' ends => ?_)
  cases r with
  | error e => cases ends
  | ok fl =>
    cases fl with
    | ret u => exact I1.after ends
    | next => cases ends
    | brk => cases ends
    | cont => cases ends
/-- isinstance(e, c), e an exception that the context holds -/
theorem call_isP {X : Cx} {a D : Addr} {oe : Obj} (hin : (a, oe) ∈ X.pn) (C : ExcC X.K D) (hz : Zc (.ref D) none oe) (hf : ∃ fs, oe.data = .fields fs) : CallR X (.builtin "isinstance") (rIsE X.K D a) := by
  intro pins s σ H xs us Q I rel h
  obtain ⟨c, cv, b, rfl, hcv, e, q⟩ := h
  obtain ⟨u, us, rfl, rx, rel⟩ : ∃ u r, us = u :: r ∧ RelV (.ref a) u ∧ Vals [c] r := by
    cases rel with
    | cons rx rr => exact ⟨_, _, rfl, rx, rr⟩
  obtain ⟨u2, rfl, rc⟩ := vals1 rel
  cases rx
  obtain rfl := hcv _ rc
  obtain ⟨there, _⟩ := I.pin (a, oe) (List.mem_append.mpr (.inl hin))
  obtain ⟨fs, isF⟩ := hf
  have inst : PySem.W.InstAt s.heap a oe D none := by
    obtain ⟨oc, od, oda, osl⟩ := oe
    obtain ⟨h1, h2⟩ := hz
    dsimp only at h1 h2 isF
    subst h1 h2 isF
    exact ⟨there, rfl, rfl, trivial⟩
  exact PySem.W.kia_one (PySem.W.handS_kitx_exc C.hg C.hk C.hs C.hd C.ha C.hn C.ht C.hm) I.kIn inst e (fun z => nomatch z) fun tk => ⟨.bl b, H, I.kept (t' := tk) fun _ _ z => z, rfl, q⟩
theorem roomE {j k : Nat} {A : Around} {h : Option Value} (r : Room k A) (l : j ≤ k) : L2H.RoomH j (A.mark h) := ⟨(r.mono l).dp, (r.mono l).un⟩
/-- isinstance of an own class, told by the classes above -/
theorem kit_refs {K : PySem.W.Frag} {D C : Addr} {b : Bool} (hd : PySem.W.hasDictIn K C = true) (ht : PySem.W.typeIn K (.ref C) = some (.type "type")) (hs : PySem.W.subIn K (.ref D) (.ref C) = some b) (self : PySem.W.subIn K (.ref D) (.ref D) = some true) :
    PySem.W.kitOne K (.ref D) (.ref C) = some b := by
  unfold PySem.W.kitOne
  split
  · rename_i q
    cases (eq_of_beq q : Value.ref D = Value.ref C)
    rw [hs] at self
    exact self.symm
  · obtain ⟨cd, hc, _⟩ := PySem.W.any_some hd
    have e : ((PySem.W.clsIn K C).isSome && PySem.W.typeIn K (.ref C) == some (.type "type")) = true := by rw [hc, ht] <;> rfl
    show (if ((PySem.W.clsIn K C).isSome && PySem.W.typeIn K (.ref C) == some (.type "type")) = true then PySem.W.subIn K (.ref D) (.ref C) else none) = some b
    rw [if_pos e]
    exact hs
theorem meta_ve : PySem.W.kitMeta "ValueError" = true := by decide +kernel
theorem kit_ve {K : PySem.W.Frag} {D : Addr} {b : Bool} (hs : PySem.W.subIn K (.ref D) (.type "ValueError") = some b) : PySem.W.kitOne K (.ref D) (.type "ValueError") = some b := by
  unfold PySem.W.kitOne
  rw [if_neg (fun z => nomatch (eq_of_beq z : Value.ref D = Value.type "ValueError"))]
  show (if PySem.W.kitMeta "ValueError" = true then PySem.W.subIn K (.ref D) (.type "ValueError") else none) = some b
  rw [if_pos meta_ve]
  exact hs

--: math = sz
/-! ### a text taken so many times; great written numbers -/
theorem op_rep_str {X : Cx} : OpR X (binaryOp .Mult) (fun x y H Q => ∃ (z : Str) (n : Int), x = .str z ∧ y = .int n ∧ MulOk z n ∧ Q (.str (Txt.mul z n)) H) := by
  intro pins s σ H x y v u Q I rx ry h
  obtain ⟨z, n, rfl, rfl, ok, q⟩ := h
  obtain ⟨t, rfl⟩ := rx
  obtain ⟨t', rfl⟩ := ry
  exact SB.mul ok fun t1 k => ⟨.str _, H, I.tok _, ⟨_, rfl⟩, q⟩
/-- 1 and so many noughts behind it -/
structure Noughts (k : Nat) : Prop where
  ok : MulOk "0" (k : Int)
  len : ("1" : Str).length + (Txt.mul "0" (k : Int)).length ≤ 640
  num : PySem.intText? ("1" ++ Txt.mul "0" (k : Int)) = some ((10 ^ k : Nat) : Int)
  len2 : (("1" : Str) ++ Txt.mul "0" (k : Int)).length ≤ 640

--: math = strmul
theorem noughts200 : Noughts 200 := ⟨by unfold MulOk; decide +kernel, by decide +kernel, by decide +kernel, by decide +kernel⟩
theorem great200 : (10 ^ 200 : Nat) < 2 ^ 699 := by decide +kernel

--: math = low
--: math = pairs
--: math = great200
/-! ### what a call for fractions comes to -/
def badF (c t u v w : Int) : Prop := (t < 0 ∨ u < 1) ∨ (c ≠ 0 ∧ (v < 0 ∨ w < 1))
def dueF (c t u v w : Int) : Int × Int := if c = 0 then low t u else if c = 1 then low (t * w + v * u) (u * w) else low (t * w - v * u) (u * w)
def Out (c t u v w : Int) (H : Hp) (p : Addr) : Prop := ∃ (x : V) (l : Addr), H p = some (.tup [x, .ref l]) ∧
  ((badF c t u v w ∧ x = .non ∧ H l = some (.lst [.bl true, .bl false, .bl false, .bl false, .bl false, .bl true])) ∨
   (¬ badF c t u v w ∧ c = 3 ∧ t * w < v * u ∧ x = .non ∧ H l = some (.lst [.bl false, .bl true, .bl false, .bl false, .bl false, .bl true])) ∨
   (¬ badF c t u v w ∧ H l = some (.lst []) ∧ ((c = 2 ∧ x = .bl (decide (t * w < v * u))) ∨ (c ≠ 2 ∧ (c = 3 → v * u ≤ t * w) ∧ ∃ r, x = .ref r ∧ H r = some (.tup [.int (dueF c t u v w).1, .int (dueF c t u v w).2])))))
/-! ### a result and its kinds, compared -/
theorem dp_none {K : PySem.W.Frag} {H : Hp} {p l : Addr} {b0 b1 b2 b3 b4 b5 : Bool} (h : H p = some (.tup [.non, .ref l])) (g : H l = some (.lst [.bl b0, .bl b1, .bl b2, .bl b3, .bl b4, .bl b5])) :
    Dp K H (.ref p) (.tuple [.none, .list [.bool b0, .bool b1, .bool b2, .bool b3, .bool b4, .bool b5]]) :=
  .tup (SqT.of h) (.cons .non (.cons (.lst (SqL.of g) (.cons (.bl _) (.cons (.bl _) (.cons (.bl _) (.cons (.bl _) (.cons (.bl _) (.cons (.bl _) .nil))))))) .nil))
theorem eqv_none (b0 b1 b2 b3 b4 b5 : Bool) : PyData.eqv (.tuple [.none, .list [.bool b0, .bool b1, .bool b2, .bool b3, .bool b4, .bool b5]]) (.tuple [.none, .list [.bool b0, .bool b1, .bool b2, .bool b3, .bool b4, .bool b5]]) = true := by
  simp [PyData.eqv, PyData.eqvAll]
theorem min_lt {ns : List Int} {m k : Int} (h : m ∈ ns) (g : ∀ y, y ∈ ns → m ≤ y) : m < k ↔ ∃ y ∈ ns, y < k := ⟨fun z => ⟨m, h, z⟩, fun ⟨y, a, b⟩ => Int.lt_of_le_of_lt (g y a) b⟩
theorem eqv_bl (b : Bool) : PyData.eqv (.bool b) (.bool b) = true := by simp [PyData.eqv]
theorem dp_nil {K : PySem.W.Frag} {H : Hp} {a : Addr} (h : H a = some (.lst [])) : Dp K H (.ref a) (.list []) := .lst (SqL.of h) .nil
theorem eqv_nil : PyData.eqv (.list []) (.list []) = true := by simp [PyData.eqv, PyData.eqvAll]

structure ErrA where
  ShareError : Addr
  NoFraction : Addr
  NotBelow : Addr
  TooGreat : Addr
  BadText : Addr
  NotRising : Addr
structure ErrC (K : PySem.W.Frag) (mg : Str → Option Value) (C S : Addr) (x : Str) : Prop where
  g : mg x = some (.ref C)
  x : PySem.W.excIn K C veT "ValueError.__new__" = true
  k : PySem.W.keepIn K (.ref C) = true
  b : PySem.W.subIn K (.ref C) (.type "BaseException") = some true
  t : PySem.W.typeIn K (.ref C) = some (.type "type")
structure KindOf (K : PySem.W.Frag) (e : ErrA) (D : Addr) (b0 b1 b2 b3 b4 b5 : Bool) : Prop where
  exc : ExcC K D
  k0 : PySem.W.kitOne K (.ref D) (.ref e.NoFraction) = some b0
  k1 : PySem.W.kitOne K (.ref D) (.ref e.NotBelow) = some b1
  k2 : PySem.W.kitOne K (.ref D) (.ref e.TooGreat) = some b2
  k3 : PySem.W.kitOne K (.ref D) (.ref e.BadText) = some b3
  k4 : PySem.W.kitOne K (.ref D) (.ref e.NotRising) = some b4
  k5 : PySem.W.kitOne K (.ref D) (.type "ValueError") = some b5
structure ErrOk (K : PySem.W.Frag) (mg : Str → Option Value) (e : ErrA) : Prop where
  ShareError : ErrC K mg e.ShareError e.ShareError "ShareError"
  NoFraction : ErrC K mg e.NoFraction e.ShareError "NoFraction"
  NotBelow : ErrC K mg e.NotBelow e.ShareError "NotBelow"
  TooGreat : ErrC K mg e.TooGreat e.ShareError "TooGreat"
  BadText : ErrC K mg e.BadText e.ShareError "BadText"
  NotRising : ErrC K mg e.NotRising e.ShareError "NotRising"
  sub_NoFraction : PySem.W.exmOne K (.ref e.NoFraction) (.ref e.ShareError) = some true
  kind_NoFraction : KindOf K e e.NoFraction true false false false false true
  sub_NotBelow : PySem.W.exmOne K (.ref e.NotBelow) (.ref e.ShareError) = some true
  kind_NotBelow : KindOf K e e.NotBelow false true false false false true

section
variable {P : Program} {w : World} {K : PySem.W.Frag} {mg : Str → Option Value} {base : Heap} {e : ErrA}

abbrev s_see : Stmt := topS 8
abbrev N_see : List Str := ["fraction"]
theorem sc_see : FnScope N_see ["fraction"] (defScope s_see) := ⟨rfl, rfl, rfl, by decide +kernel, rfl, by decide +kernel, by decide +kernel⟩
def sp_see (K : PySem.W.Frag) (e : ErrA) : Sp := fun vs H Q E => ∃ (a : Addr) (t b : Int), vs = [.ref a] ∧ SqT K H a [.int t, .int b] ∧ ((t < 0 ∨ b < 1) → E (.ref e.NoFraction) none H) ∧ (¬ (t < 0 ∨ b < 1) → Q .non H)
theorem ok_see (D : Stands K mg "see" s_see) (B : Bi mg) (Er : ErrOk K mg e) : Keeps P w K mg base 1 "see" ["fraction"] (sp_see K e) := by
  obtain ⟨f, fd, F, mF⟩ := D
  have h_NoFraction := Er.NoFraction
  refine ⟨f, fd, ?_, F.binds (ps := ["fraction"]) (fun _ _ _ _ _ _ us hl => match us, hl with | [_], _ => rfl), mF, F.kp⟩
  refine F.okX sc_see (fun vs H Q E h => ?_) (fun cdv A outer s H vs Q E hr h => ?_)
  · obtain ⟨a, t, b, rfl, hS, kE, kQ⟩ := h
    rfl
  · obtain ⟨a, t, b, rfl, hS, kE, kQ⟩ := h
    refine ⟨_, (pss_one (ps_if (PW.pt (pw_or (pt_cmpR op_lt (pe_ix ix_tup (pv 0) pe_int (fun _ _ => rfl)) pe_int (nomark _)) (pw_or1 (pt_cmpR op_lt (pe_ix ix_tup (pv 0) pe_int (fun _ _ => rfl)) pe_int (nomark _))))) (pss_one (ps_raise rfl (takes_of rfl rfl rfl rfl) (pmk_own PySem.F.excBase_ValueError h_NoFraction.x h_NoFraction.g h_NoFraction.k (raises_own h_NoFraction.b h_NoFraction.t) rfl))) pss_nil)), ?_⟩
    refine ⟨_, rfl, a, _, 0, _, rfl, rfl, hS, atI_nat (j := 0) rfl, _, _, rfl, rfl, _, rfl, ite2 (fun c => ?_) (fun c => ?_)⟩
    · refine iteT ?_
      exact kE (.inl (of_decide_eq_true c))
    · have c0 : ¬ t < 0 := fun z => c (decide_eq_true z)
      refine ⟨_, rfl, a, _, 1, _, rfl, rfl, hS, atI_nat (j := 1) rfl, _, _, rfl, rfl, _, rfl, ite2 (fun c => ?_) (fun c => ?_)⟩
      · exact kE (.inr (of_decide_eq_true c))
      · exact kQ fun z => z.elim c0 fun z => c (decide_eq_true z)

abbrev s_common : Stmt := topS 9
abbrev N_common : List Str := ["one", "other", "rest"]
theorem sc_common : FnScope N_common ["one", "other"] (defScope s_common) := ⟨rfl, rfl, rfl, by decide +kernel, rfl, by decide +kernel, by decide +kernel⟩
def sp_common (K : PySem.W.Frag) (_ : ErrA) : Sp := fun vs H Q _ => ∃ x y : Int, vs = [.int x, .int y] ∧ 0 ≤ x ∧ 0 ≤ y ∧ Q (.int (gc x y)) H
theorem ok_common (D : Stands K mg "common" s_common) (B : Bi mg) (Er : ErrOk K mg e) : Keeps P w K mg base 1 "common" ["one", "other"] (sp_common K e) := by
  obtain ⟨f, fd, F, mF⟩ := D
  refine ⟨f, fd, ?_, F.binds (ps := ["one", "other"]) (fun _ _ _ _ _ _ us hl => match us, hl with | [_, _], _ => rfl), mF, F.kp⟩
  refine toX (F.ok sc_common (fun vs H Q E h => ?_) (fun cdv A outer s H vs Q E hr h => ?_))
  · obtain ⟨x, y, rfl, hx, hy, q⟩ := h
    rfl
  · obtain ⟨x, y, rfl, hx, hy, q⟩ := h
    refine ⟨_, (pss_cons (ps_while PassesOwn.never (pt_cmpR op_gt (pv 1) pe_int (nomark _)) (pss_cons (ps_set (i := 2) sc_common.nd rfl (Or.inl rfl) (pe_op op_mod (pv 0) (pv 1)))
      (pss_cons (ps_set (i := 0) sc_common.nd rfl (Or.inl rfl) (pv 1))
      (pss_one (ps_set (i := 1) sc_common.nd rfl (Or.inl rfl) (pv 2))))))
      (pss_one (ps_ret (pv 0)))), ?_⟩
    refine while_by (fun σ H' => H' = H ∧ ∃ (u v : Int) (r : Option V), σ = [some (.int u), some (.int v), r] ∧ 0 ≤ u ∧ 0 ≤ v ∧ gc u v = gc x y)
      (fun σ _ => match σ with | [_, some (.int v), _] => v.toNat | _ => 0) ⟨rfl, x, y, none, rfl, hx, hy, rfl⟩ ?_ ?_
    · rintro σ H' ⟨rfl, u, v, r, rfl, hu, hv, hg⟩
      refine ⟨_, rfl, _, _, rfl, rfl, _, rfl, ite2 (fun c => ?_) (fun c => ?_)⟩
      · have c := of_decide_eq_true c
        have m1 := Int.emod_nonneg u (b := v) (by omega)
        have m2 := Int.emod_lt_of_pos u c
        refine ⟨_, rfl, _, rfl, _, _, rfl, rfl, c, _, rfl, _, rfl, ⟨rfl, v, u % v, _, rfl, hv, m1, gc_step.trans hg⟩, ?_⟩
        show (u % v).toNat < v.toNat
        omega
      · have c : ¬ 0 < v := fun z => c (decide_eq_true z)
        have v0 : v = 0 := by omega
        subst v0
        rw [gc_zero hu] at hg
        refine ⟨_, rfl, ?_⟩
        rw [hg]
        exact q
    · rintro σ H' Q1 Q2 hq ⟨v, e1, i, j, e2, e3, k, e4, e5⟩
      exact ⟨v, e1, i, j, e2, e3, k, e4, hq _ _ e5⟩

abbrev s_lowest : Stmt := topS 10
abbrev N_lowest : List Str := ["fraction", "far"]
theorem sc_lowest : FnScope N_lowest ["fraction"] (defScope s_lowest) := ⟨rfl, rfl, rfl, by decide +kernel, rfl, by decide +kernel, by decide +kernel⟩
def sp_lowest (K : PySem.W.Frag) (e : ErrA) : Sp := fun vs H Q E => ∃ (a : Addr) (t b : Int), vs = [.ref a] ∧ SqT K H a [.int t, .int b] ∧ Sz 9000 b ∧ ((t < 0 ∨ b < 1) → E (.ref e.NoFraction) none H) ∧
  (¬ (t < 0 ∨ b < 1) → ∀ H' p, Same H H' → H p = none → H' p = some (.tup [.int (low t b).1, .int (low t b).2]) → Q (.ref p) H')
theorem ok_lowest (D : Stands K mg "lowest" s_lowest) (B : Bi mg) (Er : ErrOk K mg e)
    (h_see : Keeps P w K mg base 1 "see" ["fraction"] (sp_see K e))
    (h_common : Keeps P w K mg base 1 "common" ["one", "other"] (sp_common K e)) : Keeps P w K mg base 2 "lowest" ["fraction"] (sp_lowest K e) := by
  obtain ⟨f, fd, F, mF⟩ := D
  obtain ⟨f_see, fd_see, G_see, b_see, m_see, k_see⟩ := h_see
  obtain ⟨f_common, fd_common, G_common, b_common, m_common, k_common⟩ := h_common
  refine ⟨f, fd, ?_, F.binds (ps := ["fraction"]) (fun _ _ _ _ _ _ us hl => match us, hl with | [_], _ => rfl), mF, F.kp⟩
  refine F.okX sc_lowest (fun vs H Q E h => ?_) (fun cdv A outer s H vs Q E hr h => ?_)
  · obtain ⟨a, t, b, rfl, hS, hz, kE, kQ⟩ := h
    rfl
  · obtain ⟨a, t, b, rfl, hS, hz, kE, kQ⟩ := h
    refine ⟨_, (pss_cons (ps_expr (pe_call G_see (hr.mono (by decide)) (by rfl) m_see k_see b_see .nil (passes_call (E := E) (takes_of rfl rfl rfl rfl) (fun _ _ _ _ h => h)) (pa_cons (pv 0) pa_nil)))
      (pss_cons (ps_set (i := 1) sc_lowest.nd rfl (Or.inl rfl) (pe_call G_common (hr.mono (by decide)) (by rfl) m_common k_common b_common .nil passL (pa_cons (pe_ix ix_tup (pv 0) pe_int (fun _ _ => rfl)) (pa_cons (pe_ix ix_tup (pv 0) pe_int (fun _ _ => rfl)) pa_nil))))
      (pss_one (ps_ret (pe_tup (pa_cons (pe_op op_fdivP (pe_ix ix_tup (pv 0) pe_int (fun _ _ => rfl)) (pv 1)) (pa_cons (pe_op op_fdivP (pe_ix ix_tup (pv 0) pe_int (fun _ _ => rfl)) (pv 1)) pa_nil))))))), ?_⟩
    refine ⟨_, rfl, a, t, b, rfl, hS, fun c => kE c, fun c => ?_⟩
    have hb : 1 ≤ b := by omega
    have ht : 0 ≤ t := by omega
    have hf := gc_pos (t := t) hb
    have hfz : Sz 9000 (gc t b) := hz.le (by omega) (gc_le hb)
    refine ⟨_, rfl, a, _, 0, _, rfl, rfl, hS, atI_nat (j := 0) rfl, _, rfl, a, _, 1, _, rfl, rfl, hS, atI_nat (j := 1) rfl, t, b, rfl, ht, by omega, ?_⟩
    refine ⟨_, rfl, a, _, 0, _, rfl, rfl, hS, atI_nat (j := 0) rfl, _, rfl, _, _, rfl, rfl, hfz.cd hf, ?_⟩
    refine ⟨_, rfl, a, _, 1, _, rfl, rfl, hS, atI_nat (j := 1) rfl, _, rfl, _, _, rfl, rfl, hfz.cd hf, by show 2 ≤ sizeLine; decide, fun p hp => ?_⟩
    exact kQ c _ p (same_new hp) hp upd_same

abbrev s_added : Stmt := topS 11
abbrev N_added : List Str := ["one", "other"]
theorem sc_added : FnScope N_added ["one", "other"] (defScope s_added) := ⟨rfl, rfl, rfl, by decide +kernel, rfl, by decide +kernel, by decide +kernel⟩
def sp_added (K : PySem.W.Frag) (e : ErrA) : Sp := fun vs H Q E => ∃ (a c : Addr) (t b u d : Int), vs = [.ref a, .ref c] ∧ SqT K H a [.int t, .int b] ∧ SqT K H c [.int u, .int d] ∧ Sz 4400 t ∧ Sz 4400 b ∧ Sz 4400 u ∧ Sz 4400 d ∧
  ((t < 0 ∨ b < 1 ∨ u < 0 ∨ d < 1) → E (.ref e.NoFraction) none H) ∧
  (0 ≤ t → 1 ≤ b → 0 ≤ u → 1 ≤ d → ∀ H' p, Same H H' → H p = none → H' p = some (.tup [.int (low (t * d + u * b) (b * d)).1, .int (low (t * d + u * b) (b * d)).2]) → Q (.ref p) H')
theorem ok_added (D : Stands K mg "added" s_added) (B : Bi mg) (Er : ErrOk K mg e)
    (h_see : Keeps P w K mg base 1 "see" ["fraction"] (sp_see K e))
    (h_lowest : Keeps P w K mg base 2 "lowest" ["fraction"] (sp_lowest K e)) : Keeps P w K mg base 3 "added" ["one", "other"] (sp_added K e) := by
  obtain ⟨f, fd, F, mF⟩ := D
  obtain ⟨f_see, fd_see, G_see, b_see, m_see, k_see⟩ := h_see
  obtain ⟨f_lowest, fd_lowest, G_lowest, b_lowest, m_lowest, k_lowest⟩ := h_lowest
  refine ⟨f, fd, ?_, F.binds (ps := ["one", "other"]) (fun _ _ _ _ _ _ us hl => match us, hl with | [_, _], _ => rfl), mF, F.kp⟩
  refine F.okX sc_added (fun vs H Q E h => ?_) (fun cdv A outer s H vs Q E hr h => ?_)
  · obtain ⟨a, c, t, b, u, d, rfl, hA, hC, z1, z2, z3, z4, kE, kQ⟩ := h
    rfl
  · obtain ⟨a, c, t, b, u, d, rfl, hA, hC, z1, z2, z3, z4, kE, kQ⟩ := h
    refine ⟨_, (pss_cons (ps_expr (pe_call G_see (hr.mono (by decide)) (by rfl) m_see k_see b_see .nil (passes_call (E := E) (takes_of rfl rfl rfl rfl) (fun _ _ _ _ h => h)) (pa_cons (pv 0) pa_nil)))
      (pss_cons (ps_expr (pe_call G_see (hr.mono (by decide)) (by rfl) m_see k_see b_see .nil (passes_call (E := E) (takes_of rfl rfl rfl rfl) (fun _ _ _ _ h => h)) (pa_cons (pv 1) pa_nil)))
      (pss_one (ps_ret (pe_call G_lowest (hr.mono (by decide)) (by rfl) m_lowest k_lowest b_lowest .nil (passes_call (E := E) (takes_of rfl rfl rfl rfl) (fun _ _ _ _ h => h)) (pa_cons (pe_tup (pa_cons (pe_op op_add (pe_op op_mulW (pe_ix ix_tup (pv 0) pe_int (fun _ _ => rfl)) (pe_ix ix_tup (pv 1) pe_int (fun _ _ => rfl))) (pe_op op_mulW (pe_ix ix_tup (pv 1) pe_int (fun _ _ => rfl)) (pe_ix ix_tup (pv 0) pe_int (fun _ _ => rfl)))) (pa_cons (pe_op op_mulW (pe_ix ix_tup (pv 0) pe_int (fun _ _ => rfl)) (pe_ix ix_tup (pv 1) pe_int (fun _ _ => rfl))) pa_nil))) pa_nil)))))), ?_⟩
    refine ⟨_, rfl, a, t, b, rfl, hA, fun c => kE (by omega), fun c1 => ?_⟩
    refine ⟨_, rfl, c, u, d, rfl, hC, fun c => kE (by omega), fun c2 => ?_⟩
    have bd : 1 ≤ b * d := Int.mul_pos (by omega) (by omega)
    have td : 0 ≤ t * d + u * b := Int.add_nonneg (Int.mul_nonneg (by omega) (by omega)) (Int.mul_nonneg (by omega) (by omega))
    refine ⟨_, rfl, a, _, 0, _, rfl, rfl, hA, atI_nat (j := 0) rfl, _, rfl, c, _, 1, _, rfl, rfl, hC, atI_nat (j := 1) rfl, _, _, rfl, rfl, z1.cm z4, ?_⟩
    refine ⟨_, rfl, c, _, 0, _, rfl, rfl, hC, atI_nat (j := 0) rfl, _, rfl, a, _, 1, _, rfl, rfl, hA, atI_nat (j := 1) rfl, _, _, rfl, rfl, z3.cm z2, _, _, rfl, rfl, ?_⟩
    refine ⟨_, rfl, a, _, 1, _, rfl, rfl, hA, atI_nat (j := 1) rfl, _, rfl, c, _, 1, _, rfl, rfl, hC, atI_nat (j := 1) rfl, _, _, rfl, rfl, z2.cm z4, by show 2 ≤ sizeLine; decide, fun p hp => ?_⟩
    refine ⟨p, _, _, rfl, SqT.of upd_same, (z2.mul z4).mono, fun c => absurd c (by omega), fun _ H' r s hr e => ?_⟩
    exact kQ (by omega) (by omega) (by omega) (by omega) H' r ((same_new hp).trans s) ((same_new hp).free hr) e

abbrev s_less : Stmt := topS 12
abbrev N_less : List Str := ["one", "other"]
theorem sc_less : FnScope N_less ["one", "other"] (defScope s_less) := ⟨rfl, rfl, rfl, by decide +kernel, rfl, by decide +kernel, by decide +kernel⟩
def sp_less (K : PySem.W.Frag) (e : ErrA) : Sp := fun vs H Q E => ∃ (a c : Addr) (t b u d : Int), vs = [.ref a, .ref c] ∧ SqT K H a [.int t, .int b] ∧ SqT K H c [.int u, .int d] ∧ Sz 4400 t ∧ Sz 4400 b ∧ Sz 4400 u ∧ Sz 4400 d ∧
  ((t < 0 ∨ b < 1 ∨ u < 0 ∨ d < 1) → E (.ref e.NoFraction) none H) ∧ (0 ≤ t → 1 ≤ b → 0 ≤ u → 1 ≤ d → Q (.bl (decide (t * d < u * b))) H)
theorem ok_less (D : Stands K mg "less" s_less) (B : Bi mg) (Er : ErrOk K mg e)
    (h_see : Keeps P w K mg base 1 "see" ["fraction"] (sp_see K e)) : Keeps P w K mg base 2 "less" ["one", "other"] (sp_less K e) := by
  obtain ⟨f, fd, F, mF⟩ := D
  obtain ⟨f_see, fd_see, G_see, b_see, m_see, k_see⟩ := h_see
  refine ⟨f, fd, ?_, F.binds (ps := ["one", "other"]) (fun _ _ _ _ _ _ us hl => match us, hl with | [_, _], _ => rfl), mF, F.kp⟩
  refine F.okX sc_less (fun vs H Q E h => ?_) (fun cdv A outer s H vs Q E hr h => ?_)
  · obtain ⟨a, c, t, b, u, d, rfl, hA, hC, z1, z2, z3, z4, kE, kQ⟩ := h
    rfl
  · obtain ⟨a, c, t, b, u, d, rfl, hA, hC, z1, z2, z3, z4, kE, kQ⟩ := h
    refine ⟨_, (pss_cons (ps_expr (pe_call G_see (hr.mono (by decide)) (by rfl) m_see k_see b_see .nil (passes_call (E := E) (takes_of rfl rfl rfl rfl) (fun _ _ _ _ h => h)) (pa_cons (pv 0) pa_nil)))
      (pss_cons (ps_expr (pe_call G_see (hr.mono (by decide)) (by rfl) m_see k_see b_see .nil (passes_call (E := E) (takes_of rfl rfl rfl rfl) (fun _ _ _ _ h => h)) (pa_cons (pv 1) pa_nil)))
      (pss_one (ps_ret (pe_cmpR op_lt (pe_op op_mulW (pe_ix ix_tup (pv 0) pe_int (fun _ _ => rfl)) (pe_ix ix_tup (pv 1) pe_int (fun _ _ => rfl))) (pe_op op_mulW (pe_ix ix_tup (pv 1) pe_int (fun _ _ => rfl)) (pe_ix ix_tup (pv 0) pe_int (fun _ _ => rfl))) (nomark _)))))), ?_⟩
    refine ⟨_, rfl, a, t, b, rfl, hA, fun c => kE (by omega), fun c1 => ?_⟩
    refine ⟨_, rfl, c, u, d, rfl, hC, fun c => kE (by omega), fun c2 => ?_⟩
    refine ⟨_, rfl, a, _, 0, _, rfl, rfl, hA, atI_nat (j := 0) rfl, _, rfl, c, _, 1, _, rfl, rfl, hC, atI_nat (j := 1) rfl, _, _, rfl, rfl, z1.cm z4, ?_⟩
    refine ⟨_, rfl, c, _, 0, _, rfl, rfl, hC, atI_nat (j := 0) rfl, _, rfl, a, _, 1, _, rfl, rfl, hA, atI_nat (j := 1) rfl, _, _, rfl, rfl, z3.cm z2, _, _, rfl, rfl, ?_⟩
    exact kQ (by omega) (by omega) (by omega) (by omega)

abbrev s_taken : Stmt := topS 13
abbrev N_taken : List Str := ["one", "other"]
theorem sc_taken : FnScope N_taken ["one", "other"] (defScope s_taken) := ⟨rfl, rfl, rfl, by decide +kernel, rfl, by decide +kernel, by decide +kernel⟩
def sp_taken (K : PySem.W.Frag) (e : ErrA) : Sp := fun vs H Q E => ∃ (a c : Addr) (t b u d : Int), vs = [.ref a, .ref c] ∧ SqT K H a [.int t, .int b] ∧ SqT K H c [.int u, .int d] ∧ Sz 4400 t ∧ Sz 4400 b ∧ Sz 4400 u ∧ Sz 4400 d ∧
  ((t < 0 ∨ b < 1 ∨ u < 0 ∨ d < 1) → E (.ref e.NoFraction) none H) ∧ (0 ≤ t → 1 ≤ b → 0 ≤ u → 1 ≤ d → t * d < u * b → E (.ref e.NotBelow) none H) ∧
  (0 ≤ t → 1 ≤ b → 0 ≤ u → 1 ≤ d → u * b ≤ t * d → ∀ H' p, Same H H' → H p = none → H' p = some (.tup [.int (low (t * d - u * b) (b * d)).1, .int (low (t * d - u * b) (b * d)).2]) → Q (.ref p) H')
theorem ok_taken (D : Stands K mg "taken" s_taken) (B : Bi mg) (Er : ErrOk K mg e)
    (h_less : Keeps P w K mg base 2 "less" ["one", "other"] (sp_less K e))
    (h_lowest : Keeps P w K mg base 2 "lowest" ["fraction"] (sp_lowest K e)) : Keeps P w K mg base 3 "taken" ["one", "other"] (sp_taken K e) := by
  obtain ⟨f, fd, F, mF⟩ := D
  obtain ⟨f_less, fd_less, G_less, b_less, m_less, k_less⟩ := h_less
  obtain ⟨f_lowest, fd_lowest, G_lowest, b_lowest, m_lowest, k_lowest⟩ := h_lowest
  have h_NotBelow := Er.NotBelow
  refine ⟨f, fd, ?_, F.binds (ps := ["one", "other"]) (fun _ _ _ _ _ _ us hl => match us, hl with | [_, _], _ => rfl), mF, F.kp⟩
  refine F.okX sc_taken (fun vs H Q E h => ?_) (fun cdv A outer s H vs Q E hr h => ?_)
  · obtain ⟨a, c, t, b, u, d, rfl, hA, hC, z1, z2, z3, z4, kE, kB, kQ⟩ := h
    rfl
  · obtain ⟨a, c, t, b, u, d, rfl, hA, hC, z1, z2, z3, z4, kE, kB, kQ⟩ := h
    refine ⟨_, (pss_cons (ps_if (pt_val (pe_call G_less (hr.mono (by decide)) (by rfl) m_less k_less b_less .nil (passes_call (E := E) (takes_of rfl rfl rfl rfl) (fun _ _ _ _ h => h)) (pa_cons (pv 0) (pa_cons (pv 1) pa_nil)))) (pss_one (ps_raise rfl (takes_of rfl rfl rfl rfl) (pmk_own PySem.F.excBase_ValueError h_NotBelow.x h_NotBelow.g h_NotBelow.k (raises_own h_NotBelow.b h_NotBelow.t) rfl))) pss_nil)
      (pss_one (ps_ret (pe_call G_lowest (hr.mono (by decide)) (by rfl) m_lowest k_lowest b_lowest .nil (passes_call (E := E) (takes_of rfl rfl rfl rfl) (fun _ _ _ _ h => h)) (pa_cons (pe_tup (pa_cons (pe_op op_sub (pe_op op_mulW (pe_ix ix_tup (pv 0) pe_int (fun _ _ => rfl)) (pe_ix ix_tup (pv 1) pe_int (fun _ _ => rfl))) (pe_op op_mulW (pe_ix ix_tup (pv 1) pe_int (fun _ _ => rfl)) (pe_ix ix_tup (pv 0) pe_int (fun _ _ => rfl)))) (pa_cons (pe_op op_mulW (pe_ix ix_tup (pv 0) pe_int (fun _ _ => rfl)) (pe_ix ix_tup (pv 1) pe_int (fun _ _ => rfl))) pa_nil))) pa_nil))))), ?_⟩
    refine ⟨_, rfl, _, rfl, a, c, t, b, u, d, rfl, hA, hC, z1, z2, z3, z4, kE, fun h1 h2 h3 h4 => ⟨_, rfl, ite2 (fun c => ?_) (fun c => ?_)⟩⟩
    · exact kB h1 h2 h3 h4 (of_decide_eq_true c)
    · have c0 : u * b ≤ t * d := by
        have : ¬ t * d < u * b := fun z => c (decide_eq_true z)
        omega
      have bd : 1 ≤ b * d := Int.mul_pos (by omega) (by omega)
      refine ⟨_, rfl, a, _, 0, _, rfl, rfl, hA, atI_nat (j := 0) rfl, _, rfl, _, _, 1, _, rfl, rfl, hC, atI_nat (j := 1) rfl, _, _, rfl, rfl, z1.cm z4, ?_⟩
      refine ⟨_, rfl, _, _, 0, _, rfl, rfl, hC, atI_nat (j := 0) rfl, _, rfl, a, _, 1, _, rfl, rfl, hA, atI_nat (j := 1) rfl, _, _, rfl, rfl, z3.cm z2, _, _, rfl, rfl, ?_⟩
      refine ⟨_, rfl, a, _, 1, _, rfl, rfl, hA, atI_nat (j := 1) rfl, _, rfl, _, _, 1, _, rfl, rfl, hC, atI_nat (j := 1) rfl, _, _, rfl, rfl, z2.cm z4, by show 2 ≤ sizeLine; decide, fun p hp => ?_⟩
      refine ⟨p, _, _, rfl, SqT.of upd_same, (z2.mul z4).mono, fun c => absurd c (by omega), fun _ H' r s hr e => ?_⟩
      exact kQ h1 h2 h3 h4 c0 H' r ((same_new hp).trans s) ((same_new hp).free hr) e

abbrev s_law_cell_at : Stmt := topS 15
abbrev N_law_cell_at : List Str := ["script", "k"]
theorem sc_law_cell_at : FnScope N_law_cell_at ["script", "k"] (defScope s_law_cell_at) := ⟨rfl, rfl, rfl, by decide +kernel, rfl, by decide +kernel, by decide +kernel⟩
/-- script[k], nought beyond the end -/
def cell (ns : List Int) (k : Nat) : Int := ns.getD k 0
theorem cell_arg {a : Addr} {x : Int} {k : Nat} (h : x = k) : [V.ref a, V.int x] = [V.ref a, V.int (k : Int)] := by rw [h]
def sp_law_cell_at (K : PySem.W.Frag) (_ : ErrA) : Sp := fun vs H Q _ => ∃ (a : Addr) (ns : List Int) (k : Nat), vs = [.ref a, .int k] ∧ SqL K H a (ns.map V.int) ∧ ns.length ≤ 63 ∧ Q (.int (cell ns k)) H
theorem ok_law_cell_at (D : Stands K mg "_law_cell_at" s_law_cell_at) (B : Bi mg) (Er : ErrOk K mg e) : Keeps P w K mg base 1 "_law_cell_at" ["script", "k"] (sp_law_cell_at K e) := by
  obtain ⟨f, fd, F, mF⟩ := D
  refine ⟨f, fd, ?_, F.binds (ps := ["script", "k"]) (fun _ _ _ _ _ _ us hl => match us, hl with | [_, _], _ => rfl), mF, F.kp⟩
  refine toX (F.ok sc_law_cell_at (fun vs H Q E h => ?_) (fun cdv A outer s H vs Q E hr h => ?_))
  · obtain ⟨a, ns, k, rfl, hS, hk, q⟩ := h
    rfl
  · obtain ⟨a, ns, k, rfl, hS, hk, q⟩ := h
    refine ⟨_, (pss_cons (ps_if (pt_cmpR op_lt (pv 1) (pe_callB call_len_seq (by rfl) B.len (by decide +kernel) (pa_cons (pv 0) pa_nil)) (nomark _)) (pss_one (ps_ret (pe_ix ix_list (pv 0) (pv 1) (fun _ _ => rfl)))) pss_nil)
      (pss_one (ps_ret pe_int))), ?_⟩
    refine ⟨_, rfl, _, rfl, a, _, rfl, .inl hS, _, _, rfl, rfl, _, rfl, ite2 (fun c => ?_) (fun c => ?_)⟩
    · have c := of_decide_eq_true c
      rw [List.length_map] at c
      have hl : k < ns.length := by omega
      have g : ns[k]? = some (cell ns k) := by
        unfold cell
        rw [List.getD_eq_getElem?_getD, List.getElem?_eq_getElem hl] <;> rfl
      exact ⟨_, rfl, _, rfl, a, _, _, _, rfl, rfl, hS, atI_nat (get_map g), q⟩
    · have z : cell ns k = 0 := by
        unfold cell
        rw [List.getD_eq_getElem?_getD, List.getElem?_eq_none] <;> first | rfl | skip
        have c : ¬ ((k : Int) < ((ns.map V.int).length : Int)) := fun z => c (decide_eq_true z)
        rw [List.length_map] at c
        omega
      rw [z] at q
      exact q

abbrev s_law_whole : Stmt := topS 16
abbrev N_law_whole : List Str := ["found"]
theorem sc_law_whole : FnScope N_law_whole ["found"] (defScope s_law_whole) := ⟨rfl, rfl, rfl, by decide +kernel, rfl, by decide +kernel, by decide +kernel⟩
def sp_law_whole (K : PySem.W.Frag) (_ : ErrA) : Sp := fun vs H Q _ => ∃ i : Int, vs = [.int i] ∧ Q (.bl true) H
theorem ok_law_whole (D : Stands K mg "_law_whole" s_law_whole) (B : Bi mg) (Er : ErrOk K mg e) : Keeps P w K mg base 1 "_law_whole" ["found"] (sp_law_whole K e) := by
  obtain ⟨f, fd, F, mF⟩ := D
  refine ⟨f, fd, ?_, F.binds (ps := ["found"]) (fun _ _ _ _ _ _ us hl => match us, hl with | [_], _ => rfl), mF, F.kp⟩
  refine toX (F.ok sc_law_whole (fun vs H Q E h => ?_) (fun cdv A outer s H vs Q E hr h => ?_))
  · obtain ⟨i, rfl, q⟩ := h
    rfl
  · obtain ⟨i, rfl, q⟩ := h
    refine ⟨_, (pss_one (ps_ret (pe_and (pe_callB call_isi (by rfl) B.isinstance (by decide +kernel) (pa_cons (pv 0) (pa_cons (pe_bltn (v := .ty "int") (by rfl) B.int (by decide +kernel) rfl) pa_nil))) (pe_one (pe_not (pe_callB call_isi (by rfl) B.isinstance (by decide +kernel) (pa_cons (pv 0) (pa_cons (pe_bltn (v := .ty "bool") (by rfl) B.bool (by decide +kernel) rfl) pa_nil)))))))), ?_⟩
    refine ⟨_, rfl, _, _, _, _, true, rfl, .ty "int", .base (.int i), kit_ty (by decide +kernel), true, rfl, iteT ?_⟩
    exact ⟨_, rfl, _, _, _, _, false, rfl, .ty "bool", .base (.int i), kit_ty (by decide +kernel), false, rfl, q⟩

abbrev s_law_common : Stmt := topS 17
abbrev N_law_common : List Str := ["one", "other", "rest"]
theorem sc_law_common : FnScope N_law_common ["one", "other"] (defScope s_law_common) := ⟨rfl, rfl, rfl, by decide +kernel, rfl, by decide +kernel, by decide +kernel⟩
def sp_law_common (K : PySem.W.Frag) (_ : ErrA) : Sp := fun vs H Q _ => ∃ x y : Int, vs = [.int x, .int y] ∧ 0 ≤ x ∧ 0 ≤ y ∧ Q (.int (gc x y)) H
theorem ok_law_common (D : Stands K mg "_law_common" s_law_common) (B : Bi mg) (Er : ErrOk K mg e) : Keeps P w K mg base 1 "_law_common" ["one", "other"] (sp_law_common K e) := by
  obtain ⟨f, fd, F, mF⟩ := D
  refine ⟨f, fd, ?_, F.binds (ps := ["one", "other"]) (fun _ _ _ _ _ _ us hl => match us, hl with | [_, _], _ => rfl), mF, F.kp⟩
  refine toX (F.ok sc_law_common (fun vs H Q E h => ?_) (fun cdv A outer s H vs Q E hr h => ?_))
  · obtain ⟨x, y, rfl, hx, hy, q⟩ := h
    rfl
  · obtain ⟨x, y, rfl, hx, hy, q⟩ := h
    refine ⟨_, (pss_cons (ps_while PassesOwn.never (pt_cmpR op_gt (pv 1) pe_int (nomark _)) (pss_cons (ps_set (i := 2) sc_law_common.nd rfl (Or.inl rfl) (pe_op op_mod (pv 0) (pv 1)))
      (pss_cons (ps_set (i := 0) sc_law_common.nd rfl (Or.inl rfl) (pv 1))
      (pss_one (ps_set (i := 1) sc_law_common.nd rfl (Or.inl rfl) (pv 2))))))
      (pss_one (ps_ret (pv 0)))), ?_⟩
    refine while_by (fun σ H' => H' = H ∧ ∃ (u v : Int) (r : Option V), σ = [some (.int u), some (.int v), r] ∧ 0 ≤ u ∧ 0 ≤ v ∧ gc u v = gc x y)
      (fun σ _ => match σ with | [_, some (.int v), _] => v.toNat | _ => 0) ⟨rfl, x, y, none, rfl, hx, hy, rfl⟩ ?_ ?_
    · rintro σ H' ⟨rfl, u, v, r, rfl, hu, hv, hg⟩
      refine ⟨_, rfl, _, _, rfl, rfl, _, rfl, ite2 (fun c => ?_) (fun c => ?_)⟩
      · have c := of_decide_eq_true c
        have m1 := Int.emod_nonneg u (b := v) (by omega)
        have m2 := Int.emod_lt_of_pos u c
        refine ⟨_, rfl, _, rfl, _, _, rfl, rfl, c, _, rfl, _, rfl, ⟨rfl, v, u % v, _, rfl, hv, m1, gc_step.trans hg⟩, ?_⟩
        show (u % v).toNat < v.toNat
        omega
      · have c : ¬ 0 < v := fun z => c (decide_eq_true z)
        have v0 : v = 0 := by omega
        subst v0
        rw [gc_zero hu] at hg
        refine ⟨_, rfl, ?_⟩
        rw [hg]
        exact q
    · rintro σ H' Q1 Q2 hq ⟨v, e1, i, j, e2, e3, k, e4, e5⟩
      exact ⟨v, e1, i, j, e2, e3, k, e4, hq _ _ e5⟩

abbrev s_law_lowest : Stmt := topS 18
abbrev N_law_lowest : List Str := ["top", "bottom", "far"]
theorem sc_law_lowest : FnScope N_law_lowest ["top", "bottom"] (defScope s_law_lowest) := ⟨rfl, rfl, rfl, by decide +kernel, rfl, by decide +kernel, by decide +kernel⟩
def sp_law_lowest (K : PySem.W.Frag) (_ : ErrA) : Sp := fun vs H Q _ => ∃ t b : Int, vs = [.int t, .int b] ∧ 0 ≤ t ∧ 1 ≤ b ∧ CDivP t (gc t b) ∧ CDivP b (gc t b) ∧
  ∀ H' p, Same H H' → H p = none → H' p = some (.tup [.int (low t b).1, .int (low t b).2]) → Q (.ref p) H'
theorem ok_law_lowest (D : Stands K mg "_law_lowest" s_law_lowest) (B : Bi mg) (Er : ErrOk K mg e)
    (h_law_common : Keeps P w K mg base 1 "_law_common" ["one", "other"] (sp_law_common K e)) : Keeps P w K mg base 2 "_law_lowest" ["top", "bottom"] (sp_law_lowest K e) := by
  obtain ⟨f, fd, F, mF⟩ := D
  obtain ⟨f_law_common, fd_law_common, G_law_common, b_law_common, m_law_common, k_law_common⟩ := h_law_common
  refine ⟨f, fd, ?_, F.binds (ps := ["top", "bottom"]) (fun _ _ _ _ _ _ us hl => match us, hl with | [_, _], _ => rfl), mF, F.kp⟩
  refine toX (F.ok sc_law_lowest (fun vs H Q E h => ?_) (fun cdv A outer s H vs Q E hr h => ?_))
  · obtain ⟨t, b, rfl, ht, hb, d1, d2, q⟩ := h
    rfl
  · obtain ⟨t, b, rfl, ht, hb, d1, d2, q⟩ := h
    refine ⟨_, (pss_cons (ps_set (i := 2) sc_law_lowest.nd rfl (Or.inl rfl) (pe_call G_law_common (hr.mono (by decide)) (by rfl) m_law_common k_law_common b_law_common .nil passL (pa_cons (pv 0) (pa_cons (pv 1) pa_nil))))
      (pss_one (ps_ret (pe_tup (pa_cons (pe_op op_fdivP (pv 0) (pv 2)) (pa_cons (pe_op op_fdivP (pv 1) (pv 2)) pa_nil)))))), ?_⟩
    have hf := gc_pos (t := t) hb
    refine ⟨_, rfl, _, rfl, t, b, rfl, ht, by omega, ?_⟩
    refine ⟨_, rfl, _, rfl, _, _, rfl, rfl, d1, _, rfl, _, rfl, _, _, rfl, rfl, d2, by show 2 ≤ sizeLine; decide, fun p hp => ?_⟩
    exact q _ p (same_new hp) hp upd_same

abbrev s_law_fraction : Stmt := topS 20
abbrev N_law_fraction : List Str := ["found", "due"]
theorem sc_law_fraction : FnScope N_law_fraction ["found", "due"] (defScope s_law_fraction) := ⟨rfl, rfl, rfl, by decide +kernel, rfl, by decide +kernel, by decide +kernel⟩
/-- two equal pairs -/
def sp_law_fraction (K : PySem.W.Frag) (_ : ErrA) : Sp := fun vs H Q _ => ∃ (a b : Addr) (t u : Int), vs = [.ref a, .ref b] ∧ SqT K H a [.int t, .int u] ∧ SqT K H b [.int t, .int u] ∧ Q (.bl true) H
theorem ok_law_fraction (D : Stands K mg "_law_fraction" s_law_fraction) (B : Bi mg) (Er : ErrOk K mg e)
    (h_law_whole : Keeps P w K mg base 1 "_law_whole" ["found"] (sp_law_whole K e)) : Keeps P w K mg base 2 "_law_fraction" ["found", "due"] (sp_law_fraction K e) := by
  obtain ⟨f, fd, F, mF⟩ := D
  obtain ⟨f_law_whole, fd_law_whole, G_law_whole, b_law_whole, m_law_whole, k_law_whole⟩ := h_law_whole
  refine ⟨f, fd, ?_, F.binds (ps := ["found", "due"]) (fun _ _ _ _ _ _ us hl => match us, hl with | [_, _], _ => rfl), mF, F.kp⟩
  refine toX (F.ok sc_law_fraction (fun vs H Q E h => ?_) (fun cdv A outer s H vs Q E hr h => ?_))
  · obtain ⟨a, b, t, u, rfl, hA, hB, q⟩ := h
    rfl
  · obtain ⟨a, b, t, u, rfl, hA, hB, q⟩ := h
    refine ⟨_, (pss_cons (ps_if (PW.pt (pw_or (pt_not (pt_val (pe_callB call_isi (by rfl) B.isinstance (by decide +kernel) (pa_cons (pv 0) (pa_cons (pe_bltn (v := .ty "tuple") (by rfl) B.tuple (by decide +kernel) rfl) pa_nil))))) (pw_or (pt_cmpR op_ne (pe_callB call_len_seq (by rfl) B.len (by decide +kernel) (pa_cons (pv 0) pa_nil)) pe_int (nomark _)) (pw_or (pt_not (pt_val (pe_call G_law_whole (hr.mono (by decide)) (by rfl) m_law_whole k_law_whole b_law_whole .nil passL (pa_cons (pe_ix ix_tup (pv 0) pe_int (fun _ _ => rfl)) pa_nil)))) (pw_or1 (pt_not (pt_val (pe_call G_law_whole (hr.mono (by decide)) (by rfl) m_law_whole k_law_whole b_law_whole .nil passL (pa_cons (pe_ix ix_tup (pv 0) pe_int (fun _ _ => rfl)) pa_nil))))))))) (pss_one (ps_ret pe_bl)) pss_nil)
      (pss_one (ps_ret (pe_cmpR (op_eqD hr.units) (pv 0) (pv 1) (nomark _))))), ?_⟩
    refine ⟨_, rfl, _, _, _, _, true, rfl, .ty "tuple", ty_tup hA, kit_ty (by decide +kernel), true, rfl, ?_⟩
    show if (!true) = true then _ else _
    refine iteF ?_
    refine ⟨_, rfl, a, _, rfl, .inr hA, rfl, _, rfl, ?_⟩
    show if (!decide ((2 : Int) = 2)) = true then _ else _
    refine iteF ?_
    refine ⟨_, rfl, a, _, 0, _, rfl, rfl, hA, atI_nat (j := 0) rfl, _, rfl, true, rfl, ?_⟩
    show if (!true) = true then _ else _
    refine iteF ?_
    refine ⟨_, rfl, a, _, 1, _, rfl, rfl, hA, atI_nat (j := 1) rfl, _, rfl, true, rfl, ?_⟩
    show if (!true) = true then _ else _
    refine iteF ?_
    refine ⟨_, rfl, _, rfl, _, _, dp_pair hA, dp_pair hB, rfl, rfl, ?_⟩
    rw [eqv_pair, decide_eq_true ⟨rfl, rfl⟩]
    exact q

abbrev s_law_kind : Stmt := topS 22
abbrev N_law_kind : List Str := ["e", "kinds"]
theorem sc_law_kind : FnScope N_law_kind ["e"] (defScope s_law_kind) := ⟨rfl, rfl, rfl, by decide +kernel, rfl, by decide +kernel, by decide +kernel⟩
def sp_law_kind (K : PySem.W.Frag) (e : ErrA) : SpE := fun a cls d vs H Q _ => vs = [.ref a] ∧ d = none ∧ ∃ (D : Addr) (b0 b1 b2 b3 b4 b5 : Bool), KindOf K e D b0 b1 b2 b3 b4 b5 ∧ cls = .ref D ∧
  ∀ H' l, Same H H' → H l = none → H' l = some (.lst [.bl b0, .bl b1, .bl b2, .bl b3, .bl b4, .bl b5]) → Q (.ref l) H'
theorem ok_law_kind (D : Stands K mg "_law_kind" s_law_kind) (B : Bi mg) (Er : ErrOk K mg e) : KeepsE P w K mg base 1 "_law_kind" ["e"] (sp_law_kind K e) := by
  obtain ⟨f, fd, F, mF⟩ := D
  have h_NoFraction := Er.NoFraction
  have h_NotBelow := Er.NotBelow
  have h_TooGreat := Er.TooGreat
  have h_BadText := Er.BadText
  have h_NotRising := Er.NotRising
  refine ⟨f, fd, fnE_of F sc_law_kind (fun a cls d vs H Q E h => ?_) (fun cdv A outer s H vs Q E a oe cls d hz hf h => ?_), F.binds (ps := ["e"]) (fun _ _ _ _ _ _ us hl => match us, hl with | [_], _ => rfl), mF, F.kp⟩
  · obtain ⟨rfl, rfl, D, b0, b1, b2, b3, b4, b5, kd, rfl, q⟩ := h
    rfl
  · obtain ⟨rfl, rfl, D, b0, b1, b2, b3, b4, b5, kd, rfl, q⟩ := h
    refine ⟨_, (pss_cons (ps_set (i := 1) sc_law_kind.nd rfl (Or.inl rfl) (pe_lst (pa_cons (pe_callB (call_isP List.mem_cons_self kd.exc hz hf) (by rfl) B.isinstance (by decide +kernel) (pa_cons (pv 0) (pa_cons (pe_glob (v := .ref e.NoFraction) (by rfl) h_NoFraction.g rfl) pa_nil))) (pa_cons (pe_callB (call_isP List.mem_cons_self kd.exc hz hf) (by rfl) B.isinstance (by decide +kernel) (pa_cons (pv 0) (pa_cons (pe_glob (v := .ref e.NotBelow) (by rfl) h_NotBelow.g rfl) pa_nil))) (pa_cons (pe_callB (call_isP List.mem_cons_self kd.exc hz hf) (by rfl) B.isinstance (by decide +kernel) (pa_cons (pv 0) (pa_cons (pe_glob (v := .ref e.TooGreat) (by rfl) h_TooGreat.g rfl) pa_nil))) (pa_cons (pe_callB (call_isP List.mem_cons_self kd.exc hz hf) (by rfl) B.isinstance (by decide +kernel) (pa_cons (pv 0) (pa_cons (pe_glob (v := .ref e.BadText) (by rfl) h_BadText.g rfl) pa_nil))) pa_nil))))))
      (pss_one (ps_ret (pe_op op_cat (pv 1) (pe_lst (pa_cons (pe_callB (call_isP List.mem_cons_self kd.exc hz hf) (by rfl) B.isinstance (by decide +kernel) (pa_cons (pv 0) (pa_cons (pe_glob (v := .ref e.NotRising) (by rfl) h_NotRising.g rfl) pa_nil))) (pa_cons (pe_callB (call_isP List.mem_cons_self kd.exc hz hf) (by rfl) B.isinstance (by decide +kernel) (pa_cons (pv 0) (pa_cons (pe_bltn (v := .ty "ValueError") (by rfl) B.ValueError (by decide +kernel) rfl) pa_nil))) pa_nil))))))), ?_⟩
    refine ⟨_, rfl, _, _, b0, rfl, fun u h => h, kd.k0, _, rfl, _, _, b1, rfl, fun u h => h, kd.k1, _, rfl, _, _, b2, rfl, fun u h => h, kd.k2, _, rfl, _, _, b3, rfl, fun u h => h, kd.k3, by show 4 ≤ sizeLine; decide, fun p np => ?_⟩
    refine ⟨_, rfl, _, rfl, _, _, b4, rfl, fun u h => h, kd.k4, _, rfl, _, _, b5, rfl, fun u h => h, kd.k5, by show 2 ≤ sizeLine; decide, fun r nr => ?_⟩
    have s1 := same_new (o := .lst [.bl b0, .bl b1, .bl b2, .bl b3]) np
    have s2 := same_new (o := .lst [.bl b4, .bl b5]) nr
    refine ⟨p, r, _, _, rfl, rfl, s2 _ _ upd_same, upd_same, by show 6 ≤ sizeLine; decide, fun l nl => ?_⟩
    exact q _ l ((s1.trans s2).trans (same_new nl)) ((s1.trans s2).free nl) upd_same

abbrev s_law_pair : Stmt := topS 23
abbrev N_law_pair : List Str := ["script", "first", "great"]
theorem sc_law_pair : FnScope N_law_pair ["script", "first"] (defScope s_law_pair) := ⟨rfl, rfl, rfl, by decide +kernel, rfl, by decide +kernel, by decide +kernel⟩
def sp_law_pair (K : PySem.W.Frag) (_ : ErrA) : Sp := fun vs H Q _ => ∃ (a : Addr) (ns : List Int) (f : Nat), vs = [.ref a, .int f] ∧ SqL K H a (ns.map V.int) ∧ ns.length ≤ 63 ∧
  ∀ (t b : Int) H' p, Sz 700 t → Sz 700 b → Same H H' → H p = none → H' p = some (.tup [.int t, .int b]) → Q (.ref p) H'
theorem ok_law_pair (D : Stands K mg "_law_pair" s_law_pair) (B : Bi mg) (Er : ErrOk K mg e)
    (h_law_cell_at : Keeps P w K mg base 1 "_law_cell_at" ["script", "k"] (sp_law_cell_at K e)) : Keeps P w K mg base 2 "_law_pair" ["script", "first"] (sp_law_pair K e) := by
  obtain ⟨f, fd, F, mF⟩ := D
  obtain ⟨f_law_cell_at, fd_law_cell_at, G_law_cell_at, b_law_cell_at, m_law_cell_at, k_law_cell_at⟩ := h_law_cell_at
  refine ⟨f, fd, ?_, F.binds (ps := ["script", "first"]) (fun _ _ _ _ _ _ us hl => match us, hl with | [_, _], _ => rfl), mF, F.kp⟩
  refine toX (F.ok sc_law_pair (fun vs H Q E h => ?_) (fun cdv A outer s H vs Q E hr h => ?_))
  · obtain ⟨a, ns, f, rfl, hS, hlen, q⟩ := h
    rfl
  · obtain ⟨a, ns, f, rfl, hS, hlen, q⟩ := h
    refine ⟨_, (pss_cons (ps_if (pt_cmpR op_eq (pe_op op_mod (pe_call G_law_cell_at (hr.mono (by decide)) (by rfl) m_law_cell_at k_law_cell_at b_law_cell_at .nil passL (pa_cons (pv 0) (pa_cons (pv 1) pa_nil))) pe_int) pe_int (nomark _)) (pss_cons (ps_set (i := 2) sc_law_pair.nd rfl (Or.inl rfl) (pe_callTy call_int_str (by rfl) B.int (by decide +kernel) (pa_cons (pe_op op_add_str pe_str (pe_op op_rep_str pe_str pe_int)) pa_nil)))
      (pss_one (ps_ret (pe_tup (pa_cons (pe_op op_mod (pe_call G_law_cell_at (hr.mono (by decide)) (by rfl) m_law_cell_at k_law_cell_at b_law_cell_at .nil passL (pa_cons (pv 0) (pa_cons (pe_op op_add (pv 1) pe_int) pa_nil))) (pv 2)) (pa_cons (pe_op op_add pe_int (pe_op op_mod (pe_call G_law_cell_at (hr.mono (by decide)) (by rfl) m_law_cell_at k_law_cell_at b_law_cell_at .nil passL (pa_cons (pv 0) (pa_cons (pe_op op_add (pv 1) pe_int) pa_nil))) (pv 2))) pa_nil)))))) pss_nil)
      (pss_one (ps_ret (pe_tup (pa_cons (pe_op op_sub (pe_op op_mod (pe_call G_law_cell_at (hr.mono (by decide)) (by rfl) m_law_cell_at k_law_cell_at b_law_cell_at .nil passL (pa_cons (pv 0) (pa_cons (pe_op op_add (pv 1) pe_int) pa_nil))) pe_int) pe_int) (pa_cons (pe_op op_sub (pe_op op_mod (pe_call G_law_cell_at (hr.mono (by decide)) (by rfl) m_law_cell_at k_law_cell_at b_law_cell_at .nil passL (pa_cons (pv 0) (pa_cons (pe_op op_add (pv 1) pe_int) pa_nil))) pe_int) pe_int) pa_nil)))))), ?_⟩
    refine ⟨_, rfl, _, rfl, a, ns, f, rfl, hS, hlen, _, _, rfl, rfl, by show (0 : Int) < 4; decide, rfl, _, rfl, ite2 (fun c => ?_) (fun c => ?_)⟩
    · refine ⟨_, _, rfl, rfl, noughts200.ok, _, _, rfl, rfl, Nat.le_trans noughts200.len (by decide), _, _, rfl, noughts200.num, noughts200.len2, ?_⟩
      have gs : Sz 699 ((10 ^ 200 : Nat) : Int) := great200
      have g0 : 0 < ((10 ^ 200 : Nat) : Int) := Int.natCast_pos.mpr (Nat.pow_pos (by decide))
      dsimp only
      generalize ((10 ^ 200 : Nat) : Int) = g at g0 gs
      have m1 := Int.emod_nonneg (cell ns (f + 1)) (b := g) (by omega)
      have m2 := Int.emod_lt_of_pos (cell ns (f + 1)) g0
      have m3 := Int.emod_nonneg (cell ns (f + 2)) (b := g) (by omega)
      have m4 := Int.emod_lt_of_pos (cell ns (f + 2)) g0
      refine ⟨_, rfl, _, rfl, _, _, rfl, rfl, a, ns, f + 1, cell_arg (by omega), hS, hlen, _, rfl, _, _, rfl, rfl, by show 0 < g; omega, _, rfl, _, rfl, _, _, rfl, rfl, a, ns, f + 2, cell_arg (by omega), hS, hlen, _, rfl, _, _, rfl, rfl, by show 0 < g; omega, _, _, rfl, rfl, by show 2 ≤ sizeLine; decide, fun p np => ?_⟩
      exact q _ _ _ p (gs.le m1 (by omega)).mono ((Sz.one (a := 699)).add (gs.le m3 (by omega))) (same_new np) np upd_same
    · refine ⟨_, rfl, _, rfl, _, _, rfl, rfl, a, ns, f + 1, cell_arg (by omega), hS, hlen, _, _, rfl, rfl, by show (0 : Int) < 63; decide, _, _, rfl, rfl, _, rfl, _, rfl, _, _, rfl, rfl, a, ns, f + 2, cell_arg (by omega), hS, hlen, _, _, rfl, rfl, by show (0 : Int) < 62; decide, _, _, rfl, rfl, by show 2 ≤ sizeLine; decide, fun p np => ?_⟩
      refine q _ _ _ p (Sz.mono (a := 7) ?_ (by decide) : Sz 700 _) (Sz.mono (a := 7) ?_ (by decide) : Sz 700 _) (same_new np) np upd_same
      · show (cell ns (f + 1) % 63 - 2).natAbs < 128
        omega
      · show (cell ns (f + 2) % 62 - 1).natAbs < 128
        omega

abbrev s_law_call : Stmt := topS 24
abbrev N_law_call : List Str := ["call", "one", "other"]
theorem sc_law_call : FnScope N_law_call ["call", "one", "other"] (defScope s_law_call) := ⟨rfl, rfl, rfl, by decide +kernel, rfl, by decide +kernel, by decide +kernel⟩
def sp_law_call (K : PySem.W.Frag) (e : ErrA) : Sp := fun vs H Q E => ∃ (c : Int) (a b : Addr), vs = [.int c, .ref a, .ref b] ∧
  ((c = 0 ∧ sp_lowest K e [.ref a] H Q E) ∨ (c = 1 ∧ sp_added K e [.ref a, .ref b] H Q E) ∨ (c = 2 ∧ sp_less K e [.ref a, .ref b] H Q E) ∨ (c = 3 ∧ sp_taken K e [.ref a, .ref b] H Q E))
theorem ok_law_call (D : Stands K mg "_law_call" s_law_call) (B : Bi mg) (Er : ErrOk K mg e)
    (h_taken : Keeps P w K mg base 3 "taken" ["one", "other"] (sp_taken K e))
    (h_lowest : Keeps P w K mg base 2 "lowest" ["fraction"] (sp_lowest K e))
    (h_added : Keeps P w K mg base 3 "added" ["one", "other"] (sp_added K e))
    (h_less : Keeps P w K mg base 2 "less" ["one", "other"] (sp_less K e)) : Keeps P w K mg base 4 "_law_call" ["call", "one", "other"] (sp_law_call K e) := by
  obtain ⟨f, fd, F, mF⟩ := D
  obtain ⟨f_taken, fd_taken, G_taken, b_taken, m_taken, k_taken⟩ := h_taken
  obtain ⟨f_lowest, fd_lowest, G_lowest, b_lowest, m_lowest, k_lowest⟩ := h_lowest
  obtain ⟨f_added, fd_added, G_added, b_added, m_added, k_added⟩ := h_added
  obtain ⟨f_less, fd_less, G_less, b_less, m_less, k_less⟩ := h_less
  refine ⟨f, fd, ?_, F.binds (ps := ["call", "one", "other"]) (fun _ _ _ _ _ _ us hl => match us, hl with | [_, _, _], _ => rfl), mF, F.kp⟩
  refine F.okX sc_law_call (fun vs H Q E h => ?_) (fun cdv A outer s H vs Q E hr h => ?_)
  · obtain ⟨c, a, b, rfl, h⟩ := h
    rfl
  · obtain ⟨c, a, b, rfl, h⟩ := h
    refine ⟨_, (pss_cons (ps_if (pt_cmpR op_eq (pv 0) pe_int (nomark _)) (pss_one (ps_ret (pe_call G_lowest (hr.mono (by decide)) (by rfl) m_lowest k_lowest b_lowest .nil (passes_call (E := E) (takes_of rfl rfl rfl rfl) (fun _ _ _ _ h => h)) (pa_cons (pv 1) pa_nil)))) pss_nil)
      (pss_cons (ps_if (pt_cmpR op_eq (pv 0) pe_int (nomark _)) (pss_one (ps_ret (pe_call G_added (hr.mono (by decide)) (by rfl) m_added k_added b_added .nil (passes_call (E := E) (takes_of rfl rfl rfl rfl) (fun _ _ _ _ h => h)) (pa_cons (pv 1) (pa_cons (pv 2) pa_nil))))) pss_nil)
      (pss_cons (ps_if (pt_cmpR op_eq (pv 0) pe_int (nomark _)) (pss_one (ps_ret (pe_call G_less (hr.mono (by decide)) (by rfl) m_less k_less b_less .nil (passes_call (E := E) (takes_of rfl rfl rfl rfl) (fun _ _ _ _ h => h)) (pa_cons (pv 1) (pa_cons (pv 2) pa_nil))))) pss_nil)
      (pss_one (ps_ret (pe_call G_taken (hr.mono (by decide)) (by rfl) m_taken k_taken b_taken .nil (passes_call (E := E) (takes_of rfl rfl rfl rfl) (fun _ _ _ _ h => h)) (pa_cons (pv 1) (pa_cons (pv 2) pa_nil)))))))), ?_⟩
    rcases h with ⟨rfl, h⟩ | ⟨rfl, h⟩ | ⟨rfl, h⟩ | ⟨rfl, h⟩
    · refine ⟨_, rfl, rfl, _, rfl, ite2 (fun _ => ?_) (fun z => absurd (decide_eq_true rfl) z)⟩
      exact ⟨_, rfl, h⟩
    · refine ⟨_, rfl, rfl, _, rfl, ite2 (fun z => absurd (V.int.inj (of_decide_eq_true z)) (by decide)) (fun _ => ?_)⟩
      refine ⟨_, rfl, rfl, _, rfl, ite2 (fun _ => ?_) (fun z => absurd (decide_eq_true rfl) z)⟩
      exact ⟨_, rfl, _, rfl, h⟩
    · refine ⟨_, rfl, rfl, _, rfl, ite2 (fun z => absurd (V.int.inj (of_decide_eq_true z)) (by decide)) (fun _ => ?_)⟩
      refine ⟨_, rfl, rfl, _, rfl, ite2 (fun z => absurd (V.int.inj (of_decide_eq_true z)) (by decide)) (fun _ => ?_)⟩
      refine ⟨_, rfl, rfl, _, rfl, ite2 (fun _ => ?_) (fun z => absurd (decide_eq_true rfl) z)⟩
      exact ⟨_, rfl, _, rfl, h⟩
    · refine ⟨_, rfl, rfl, _, rfl, ite2 (fun z => absurd (V.int.inj (of_decide_eq_true z)) (by decide)) (fun _ => ?_)⟩
      refine ⟨_, rfl, rfl, _, rfl, ite2 (fun z => absurd (V.int.inj (of_decide_eq_true z)) (by decide)) (fun _ => ?_)⟩
      refine ⟨_, rfl, rfl, _, rfl, ite2 (fun z => absurd (V.int.inj (of_decide_eq_true z)) (by decide)) (fun _ => ?_)⟩
      exact ⟨_, rfl, _, rfl, h⟩

abbrev s_law_tried : Stmt := topS 25
abbrev N_law_tried : List Str := ["call", "one", "other", "found", "kinds", "e"]
theorem sc_law_tried : FnScope N_law_tried ["call", "one", "other"] (defScope s_law_tried) := ⟨rfl, rfl, rfl, by decide +kernel, rfl, by decide +kernel, by decide +kernel⟩
def sp_law_tried (K : PySem.W.Frag) (e : ErrA) : Sp := fun vs H Q _ => ∃ (c : Int) (a b : Addr) (t u v w : Int), vs = [.int c, .ref a, .ref b] ∧ SqT K H a [.int t, .int u] ∧ SqT K H b [.int v, .int w] ∧ Sz 700 t ∧ Sz 700 u ∧ Sz 700 v ∧ Sz 700 w ∧ (c = 0 ∨ c = 1 ∨ c = 2 ∨ c = 3) ∧
  ∀ H' p, Same H H' → H p = none → Out c t u v w H' p → Q (.ref p) H'
theorem ok_law_tried (D : Stands K mg "_law_tried" s_law_tried) (B : Bi mg) (Er : ErrOk K mg e)
    (h_law_call : Keeps P w K mg base 4 "_law_call" ["call", "one", "other"] (sp_law_call K e))
    (h_law_kind : KeepsE P w K mg base 1 "_law_kind" ["e"] (sp_law_kind K e)) : Keeps P w K mg base 5 "_law_tried" ["call", "one", "other"] (sp_law_tried K e) := by
  obtain ⟨f, fd, F, mF⟩ := D
  obtain ⟨f_law_call, fd_law_call, G_law_call, b_law_call, m_law_call, k_law_call⟩ := h_law_call
  obtain ⟨f_law_kind, fd_law_kind, G_law_kind, b_law_kind, m_law_kind, k_law_kind⟩ := h_law_kind
  have h_ShareError := Er.ShareError
  refine ⟨f, fd, ?_, F.binds (ps := ["call", "one", "other"]) (fun _ _ _ _ _ _ us hl => match us, hl with | [_, _, _], _ => rfl), mF, F.kp⟩
  refine toX (F.ok sc_law_tried (fun vs H Q E h => ?_) (fun cdv A outer s H vs Q E hr h => ?_))
  · obtain ⟨c, a, b, t, u, v, w, rfl, hA, hB, z1, z2, z3, z4, hc, q⟩ := h
    rfl
  · obtain ⟨c, a, b, t, u, v, w, rfl, hA, hB, z1, z2, z3, z4, hc, q⟩ := h
    refine ⟨_, (pss_cons (ps_set (i := 3) sc_law_tried.nd rfl (Or.inl rfl) pe_non)
      (pss_cons (ps_set (i := 4) sc_law_tried.nd rfl (Or.inl rfl) (pe_lst pa_nil))
      (pss_cons (ps_try_as (i := 5) rfl rfl sc_law_tried.nd rfl rfl ⟨by rfl, by decide, .inl h_ShareError.g⟩ takes0 (fun W pn xe tk _ => (pss_one (ps_set (i := 3) sc_law_tried.nd rfl (Or.inl rfl) (pe_callS G_law_call (hr.mono (by decide)) (by rfl) m_law_call k_law_call b_law_call (fun σ => passAt tk σ) (pa_cons (pv 0) (pa_cons (pv 1) (pa_cons (pv 2) pa_nil)))))))
      (fun a oe cls d pn hz hf => (pss_one (ps_set (i := 4) sc_law_tried.nd rfl (Or.inl rfl) (pe_callE G_law_kind (roomE hr (by decide)) List.mem_cons_self hz hf (by rfl) m_law_kind k_law_kind b_law_kind (pa_cons (pv 5) pa_nil))))))
      (pss_one (ps_ret (pe_tup (pa_cons (pv 3) (pa_cons (pv 4) pa_nil)))))))), ?_⟩
    refine ⟨Nat.zero_le _, fun l nl => ?_⟩
    have s1 := same_new (o := .lst []) nl
    have el : (upd H l (.lst [])) l = some (.lst []) := upd_same
    dsimp only
    generalize (upd H l (.lst [])) = H1 at s1 el
    have hA1 := same_tup s1 hA
    have hB1 := same_tup s1 hB
    rcases hc with rfl | rfl | rfl | rfl
    · refine ⟨_, rfl, _, rfl, _, rfl, 0, a, b, rfl, .inl ⟨rfl, a, t, u, rfl, hA1, z2.mono, fun hb => ?_, fun hb H2 r s2 nr er => ?_⟩⟩
      · refine ⟨true, Er.sub_NoFraction, fun _ x nx => ?_, fun z => nomatch z⟩
        refine ⟨_, rfl, rfl, rfl, _, _, _, _, _, _, _, Er.kind_NoFraction, rfl, fun H2 m s2 nm em => ?_⟩
        refine ⟨_, rfl, _, rfl, by show 2 ≤ sizeLine; decide, fun p np => ?_⟩
        exact q _ p ((s1.trans s2).trans (same_new np)) ((s1.trans s2).free np) ⟨_, m, upd_same, .inl ⟨.inl hb, rfl, same_new np _ _ em⟩⟩
      · refine ⟨_, rfl, _, rfl, by show 2 ≤ sizeLine; decide, fun p np => ?_⟩
        exact q _ p ((s1.trans s2).trans (same_new np)) ((s1.trans s2).free np) ⟨_, l, upd_same, .inr (.inr ⟨fun z => z.elim hb (fun z => z.1 rfl), same_new np _ _ (s2 _ _ el), .inr ⟨by decide, fun z => absurd z (by decide), r, rfl, same_new np _ _ er⟩⟩)⟩
    · refine ⟨_, rfl, _, rfl, _, rfl, 1, a, b, rfl, .inr (.inl ⟨rfl, a, b, t, u, v, w, rfl, hA1, hB1, z1.mono, z2.mono, z3.mono, z4.mono, fun hb => ?_, fun g1 g2 g3 g4 H2 r s2 nr er => ?_⟩)⟩
      · refine ⟨true, Er.sub_NoFraction, fun _ x nx => ?_, fun z => nomatch z⟩
        refine ⟨_, rfl, rfl, rfl, _, _, _, _, _, _, _, Er.kind_NoFraction, rfl, fun H2 m s2 nm em => ?_⟩
        refine ⟨_, rfl, _, rfl, by show 2 ≤ sizeLine; decide, fun p np => ?_⟩
        refine q _ p ((s1.trans s2).trans (same_new np)) ((s1.trans s2).free np) ⟨_, m, upd_same, .inl ⟨?_, rfl, same_new np _ _ em⟩⟩
        rcases hb with z | z | z | z
        · exact .inl (.inl z)
        · exact .inl (.inr z)
        · exact .inr ⟨by decide, .inl z⟩
        · exact .inr ⟨by decide, .inr z⟩
      · refine ⟨_, rfl, _, rfl, by show 2 ≤ sizeLine; decide, fun p np => ?_⟩
        refine q _ p ((s1.trans s2).trans (same_new np)) ((s1.trans s2).free np) ⟨_, l, upd_same, .inr (.inr ⟨fun z => ?_, same_new np _ _ (s2 _ _ el), .inr ⟨by decide, fun z => absurd z (by decide), r, rfl, same_new np _ _ er⟩⟩)⟩
        unfold badF at z
        omega
    · refine ⟨_, rfl, _, rfl, _, rfl, 2, a, b, rfl, .inr (.inr (.inl ⟨rfl, a, b, t, u, v, w, rfl, hA1, hB1, z1.mono, z2.mono, z3.mono, z4.mono, fun hb => ?_, fun g1 g2 g3 g4 => ?_⟩))⟩
      · refine ⟨true, Er.sub_NoFraction, fun _ x nx => ?_, fun z => nomatch z⟩
        refine ⟨_, rfl, rfl, rfl, _, _, _, _, _, _, _, Er.kind_NoFraction, rfl, fun H2 m s2 nm em => ?_⟩
        refine ⟨_, rfl, _, rfl, by show 2 ≤ sizeLine; decide, fun p np => ?_⟩
        refine q _ p ((s1.trans s2).trans (same_new np)) ((s1.trans s2).free np) ⟨_, m, upd_same, .inl ⟨?_, rfl, same_new np _ _ em⟩⟩
        rcases hb with z | z | z | z
        · exact .inl (.inl z)
        · exact .inl (.inr z)
        · exact .inr ⟨by decide, .inl z⟩
        · exact .inr ⟨by decide, .inr z⟩
      · refine ⟨_, rfl, _, rfl, by show 2 ≤ sizeLine; decide, fun p np => ?_⟩
        refine q _ p (s1.trans (same_new np)) (s1.free np) ⟨_, l, upd_same, .inr (.inr ⟨fun z => ?_, same_new np _ _ el, .inl ⟨rfl, rfl⟩⟩)⟩
        unfold badF at z
        omega
    · refine ⟨_, rfl, _, rfl, _, rfl, 3, a, b, rfl, .inr (.inr (.inr ⟨rfl, a, b, t, u, v, w, rfl, hA1, hB1, z1.mono, z2.mono, z3.mono, z4.mono, fun hb => ?_, fun g1 g2 g3 g4 lt => ?_, fun g1 g2 g3 g4 ge H2 r s2 nr er => ?_⟩))⟩
      · refine ⟨true, Er.sub_NoFraction, fun _ x nx => ?_, fun z => nomatch z⟩
        refine ⟨_, rfl, rfl, rfl, _, _, _, _, _, _, _, Er.kind_NoFraction, rfl, fun H2 m s2 nm em => ?_⟩
        refine ⟨_, rfl, _, rfl, by show 2 ≤ sizeLine; decide, fun p np => ?_⟩
        refine q _ p ((s1.trans s2).trans (same_new np)) ((s1.trans s2).free np) ⟨_, m, upd_same, .inl ⟨?_, rfl, same_new np _ _ em⟩⟩
        rcases hb with z | z | z | z
        · exact .inl (.inl z)
        · exact .inl (.inr z)
        · exact .inr ⟨by decide, .inl z⟩
        · exact .inr ⟨by decide, .inr z⟩
      · refine ⟨true, Er.sub_NotBelow, fun _ x nx => ?_, fun z => nomatch z⟩
        refine ⟨_, rfl, rfl, rfl, _, _, _, _, _, _, _, Er.kind_NotBelow, rfl, fun H2 m s2 nm em => ?_⟩
        refine ⟨_, rfl, _, rfl, by show 2 ≤ sizeLine; decide, fun p np => ?_⟩
        refine q _ p ((s1.trans s2).trans (same_new np)) ((s1.trans s2).free np) ⟨_, m, upd_same, .inr (.inl ⟨fun z => ?_, rfl, lt, rfl, same_new np _ _ em⟩)⟩
        unfold badF at z
        omega
      · refine ⟨_, rfl, _, rfl, by show 2 ≤ sizeLine; decide, fun p np => ?_⟩
        refine q _ p ((s1.trans s2).trans (same_new np)) ((s1.trans s2).free np) ⟨_, l, upd_same, .inr (.inr ⟨fun z => ?_, same_new np _ _ (s2 _ _ el), .inr ⟨by decide, fun _ => ge, r, rfl, same_new np _ _ er⟩⟩)⟩
        unfold badF at z
        omega

abbrev s_law_due : Stmt := topS 26
abbrev N_law_due : List Str := ["call", "one", "other"]
theorem sc_law_due : FnScope N_law_due ["call", "one", "other"] (defScope s_law_due) := ⟨rfl, rfl, rfl, by decide +kernel, rfl, by decide +kernel, by decide +kernel⟩
def sp_law_due (K : PySem.W.Frag) (_ : ErrA) : Sp := fun vs H Q _ => ∃ (c : Int) (a b : Addr) (t u v w : Int), vs = [.int c, .ref a, .ref b] ∧ SqT K H a [.int t, .int u] ∧ SqT K H b [.int v, .int w] ∧ Sz 700 t ∧ Sz 700 u ∧ Sz 700 v ∧ Sz 700 w ∧ (¬ badF c t u v w ∧ (c = 0 ∨ c = 1 ∨ c = 2 ∨ (c = 3 ∧ v * u ≤ t * w))) ∧
  (c = 2 → Q (.bl (decide (t * w < v * u))) H) ∧ (c ≠ 2 → ∀ H' p, Same H H' → H p = none → H' p = some (.tup [.int (dueF c t u v w).1, .int (dueF c t u v w).2]) → Q (.ref p) H')
theorem ok_law_due (D : Stands K mg "_law_due" s_law_due) (B : Bi mg) (Er : ErrOk K mg e)
    (h_law_lowest : Keeps P w K mg base 2 "_law_lowest" ["top", "bottom"] (sp_law_lowest K e)) : Keeps P w K mg base 3 "_law_due" ["call", "one", "other"] (sp_law_due K e) := by
  obtain ⟨f, fd, F, mF⟩ := D
  obtain ⟨f_law_lowest, fd_law_lowest, G_law_lowest, b_law_lowest, m_law_lowest, k_law_lowest⟩ := h_law_lowest
  refine ⟨f, fd, ?_, F.binds (ps := ["call", "one", "other"]) (fun _ _ _ _ _ _ us hl => match us, hl with | [_, _, _], _ => rfl), mF, F.kp⟩
  refine toX (F.ok sc_law_due (fun vs H Q E h => ?_) (fun cdv A outer s H vs Q E hr h => ?_))
  · obtain ⟨c, a, b, t, u, v, w, rfl, hA, hB, z1, z2, z3, z4, g, q2, q⟩ := h
    rfl
  · obtain ⟨c, a, b, t, u, v, w, rfl, hA, hB, z1, z2, z3, z4, g, q2, q⟩ := h
    refine ⟨_, (pss_cons (ps_if (pt_cmpR op_eq (pv 0) pe_int (nomark _)) (pss_one (ps_ret (pe_call G_law_lowest (hr.mono (by decide)) (by rfl) m_law_lowest k_law_lowest b_law_lowest .nil passL (pa_cons (pe_ix ix_tup (pv 1) pe_int (fun _ _ => rfl)) (pa_cons (pe_ix ix_tup (pv 1) pe_int (fun _ _ => rfl)) pa_nil))))) pss_nil)
      (pss_cons (ps_if (pt_cmpR op_eq (pv 0) pe_int (nomark _)) (pss_one (ps_ret (pe_call G_law_lowest (hr.mono (by decide)) (by rfl) m_law_lowest k_law_lowest b_law_lowest .nil passL (pa_cons (pe_op op_add (pe_op op_mulW (pe_ix ix_tup (pv 1) pe_int (fun _ _ => rfl)) (pe_ix ix_tup (pv 2) pe_int (fun _ _ => rfl))) (pe_op op_mulW (pe_ix ix_tup (pv 2) pe_int (fun _ _ => rfl)) (pe_ix ix_tup (pv 1) pe_int (fun _ _ => rfl)))) (pa_cons (pe_op op_mulW (pe_ix ix_tup (pv 1) pe_int (fun _ _ => rfl)) (pe_ix ix_tup (pv 2) pe_int (fun _ _ => rfl))) pa_nil))))) pss_nil)
      (pss_cons (ps_if (pt_cmpR op_eq (pv 0) pe_int (nomark _)) (pss_one (ps_ret (pe_cmpR op_lt (pe_op op_mulW (pe_ix ix_tup (pv 1) pe_int (fun _ _ => rfl)) (pe_ix ix_tup (pv 2) pe_int (fun _ _ => rfl))) (pe_op op_mulW (pe_ix ix_tup (pv 2) pe_int (fun _ _ => rfl)) (pe_ix ix_tup (pv 1) pe_int (fun _ _ => rfl))) (nomark _)))) pss_nil)
      (pss_one (ps_ret (pe_call G_law_lowest (hr.mono (by decide)) (by rfl) m_law_lowest k_law_lowest b_law_lowest .nil passL (pa_cons (pe_op op_sub (pe_op op_mulW (pe_ix ix_tup (pv 1) pe_int (fun _ _ => rfl)) (pe_ix ix_tup (pv 2) pe_int (fun _ _ => rfl))) (pe_op op_mulW (pe_ix ix_tup (pv 2) pe_int (fun _ _ => rfl)) (pe_ix ix_tup (pv 1) pe_int (fun _ _ => rfl)))) (pa_cons (pe_op op_mulW (pe_ix ix_tup (pv 1) pe_int (fun _ _ => rfl)) (pe_ix ix_tup (pv 2) pe_int (fun _ _ => rfl))) pa_nil)))))))), ?_⟩
    obtain ⟨nb, g⟩ := g
    unfold badF at nb
    rcases g with rfl | rfl | rfl | ⟨rfl, ge⟩
    · obtain ⟨d1, d2⟩ := low_divs (t := t) (by omega : 1 ≤ u) z2.mono
      refine ⟨_, rfl, rfl, _, rfl, ite2 (fun _ => ?_) (fun z => absurd (decide_eq_true rfl) z)⟩
      exact ⟨_, rfl, a, _, 0, _, rfl, rfl, hA, atI_nat (j := 0) rfl, _, rfl, a, _, 1, _, rfl, rfl, hA, atI_nat (j := 1) rfl, t, u, rfl, by omega, by omega, d1, d2, q (by decide)⟩
    · have uw : 1 ≤ u * w := Int.mul_pos (by omega) (by omega)
      have tw : 0 ≤ t * w := Int.mul_nonneg (by omega) (by omega)
      have vu : 0 ≤ v * u := Int.mul_nonneg (by omega) (by omega)
      obtain ⟨d1, d2⟩ := low_divs (t := t * w + v * u) uw (z2.mul z4).mono
      refine ⟨_, rfl, rfl, _, rfl, ite2 (fun z => absurd (V.int.inj (of_decide_eq_true z)) (by decide)) (fun _ => ?_)⟩
      refine ⟨_, rfl, rfl, _, rfl, ite2 (fun _ => ?_) (fun z => absurd (decide_eq_true rfl) z)⟩
      refine ⟨_, rfl, a, _, 0, _, rfl, rfl, hA, atI_nat (j := 0) rfl, _, rfl, b, _, 1, _, rfl, rfl, hB, atI_nat (j := 1) rfl, _, _, rfl, rfl, z1.cm z4, ?_⟩
      refine ⟨_, rfl, b, _, 0, _, rfl, rfl, hB, atI_nat (j := 0) rfl, _, rfl, a, _, 1, _, rfl, rfl, hA, atI_nat (j := 1) rfl, _, _, rfl, rfl, z3.cm z2, _, _, rfl, rfl, ?_⟩
      exact ⟨_, rfl, a, _, 1, _, rfl, rfl, hA, atI_nat (j := 1) rfl, _, rfl, b, _, 1, _, rfl, rfl, hB, atI_nat (j := 1) rfl, _, _, rfl, rfl, z2.cm z4, _, _, rfl, by omega, uw, d1, d2, q (by decide)⟩
    · refine ⟨_, rfl, rfl, _, rfl, ite2 (fun z => absurd (V.int.inj (of_decide_eq_true z)) (by decide)) (fun _ => ?_)⟩
      refine ⟨_, rfl, rfl, _, rfl, ite2 (fun z => absurd (V.int.inj (of_decide_eq_true z)) (by decide)) (fun _ => ?_)⟩
      refine ⟨_, rfl, rfl, _, rfl, ite2 (fun _ => ?_) (fun z => absurd (decide_eq_true rfl) z)⟩
      refine ⟨_, rfl, a, _, 0, _, rfl, rfl, hA, atI_nat (j := 0) rfl, _, rfl, b, _, 1, _, rfl, rfl, hB, atI_nat (j := 1) rfl, _, _, rfl, rfl, z1.cm z4, ?_⟩
      exact ⟨_, rfl, b, _, 0, _, rfl, rfl, hB, atI_nat (j := 0) rfl, _, rfl, a, _, 1, _, rfl, rfl, hA, atI_nat (j := 1) rfl, _, _, rfl, rfl, z3.cm z2, _, _, rfl, rfl, q2 rfl⟩
    · have uw : 1 ≤ u * w := Int.mul_pos (by omega) (by omega)
      obtain ⟨d1, d2⟩ := low_divs (t := t * w - v * u) uw (z2.mul z4).mono
      refine ⟨_, rfl, rfl, _, rfl, ite2 (fun z => absurd (V.int.inj (of_decide_eq_true z)) (by decide)) (fun _ => ?_)⟩
      refine ⟨_, rfl, rfl, _, rfl, ite2 (fun z => absurd (V.int.inj (of_decide_eq_true z)) (by decide)) (fun _ => ?_)⟩
      refine ⟨_, rfl, rfl, _, rfl, ite2 (fun z => absurd (V.int.inj (of_decide_eq_true z)) (by decide)) (fun _ => ?_)⟩
      refine ⟨_, rfl, a, _, 0, _, rfl, rfl, hA, atI_nat (j := 0) rfl, _, rfl, b, _, 1, _, rfl, rfl, hB, atI_nat (j := 1) rfl, _, _, rfl, rfl, z1.cm z4, ?_⟩
      refine ⟨_, rfl, b, _, 0, _, rfl, rfl, hB, atI_nat (j := 0) rfl, _, rfl, a, _, 1, _, rfl, rfl, hA, atI_nat (j := 1) rfl, _, _, rfl, rfl, z3.cm z2, _, _, rfl, rfl, ?_⟩
      exact ⟨_, rfl, a, _, 1, _, rfl, rfl, hA, atI_nat (j := 1) rfl, _, rfl, b, _, 1, _, rfl, rfl, hB, atI_nat (j := 1) rfl, _, _, rfl, rfl, z2.cm z4, _, _, rfl, by omega, uw, d1, d2, q (by decide)⟩

abbrev s_law : Stmt := topS 27
abbrev N_law : List Str := ["script", "one", "other", "call", "tried", "asked", "wrong", "pair"]
theorem sc_law : FnScope N_law ["script"] (defScope s_law) := ⟨rfl, rfl, rfl, by decide +kernel, rfl, by decide +kernel, by decide +kernel⟩
/-- some tuples of two ints -/
def twos (as : List (Addr × Int × Int)) : List V := as.map fun x => .ref x.1
def Twos (K : PySem.W.Frag) (H : Hp) (as : List (Addr × Int × Int)) : Prop := ∀ x ∈ as, SqT K H x.1 [.int x.2.1, .int x.2.2]
def sp_law (K : PySem.W.Frag) : Sp := fun vs H Q _ => ∃ (a : Addr) (ns : List Int), vs = [.ref a] ∧ SqL K H a (ns.map V.int) ∧ ns.length ≤ 63 ∧ ∀ H', Q (.bl true) H'
theorem ok_law {f : Addr} {fd : FuncData} (F : Fun K "law" "law" s_law f fd) (B : Bi mg) (Er : ErrOk K mg e)
    (h_law_pair : Keeps P w K mg base 2 "_law_pair" ["script", "first"] (sp_law_pair K e))
    (h_law_tried : Keeps P w K mg base 5 "_law_tried" ["call", "one", "other"] (sp_law_tried K e))
    (h_law_due : Keeps P w K mg base 3 "_law_due" ["call", "one", "other"] (sp_law_due K e))
    (h_law_fraction : Keeps P w K mg base 2 "_law_fraction" ["found", "due"] (sp_law_fraction K e)) : FnOk P w K mg base CX0 6 f fd ["script"] (sp_law K) := by
  obtain ⟨f_law_pair, fd_law_pair, G_law_pair, b_law_pair, m_law_pair, k_law_pair⟩ := h_law_pair
  obtain ⟨f_law_tried, fd_law_tried, G_law_tried, b_law_tried, m_law_tried, k_law_tried⟩ := h_law_tried
  obtain ⟨f_law_due, fd_law_due, G_law_due, b_law_due, m_law_due, k_law_due⟩ := h_law_due
  obtain ⟨f_law_fraction, fd_law_fraction, G_law_fraction, b_law_fraction, m_law_fraction, k_law_fraction⟩ := h_law_fraction
  refine F.ok sc_law (fun vs H Q E h => ?_) (fun cdv A outer s H vs Q E hr h => ?_)
  · obtain ⟨a, ns, rfl, _⟩ := h
    rfl
  · obtain ⟨a, ns, rfl, hS, hlen, kq⟩ := h
    refine ⟨_, (pss_cons (ps_set (i := 1) sc_law.nd rfl (Or.inl rfl) (pe_call G_law_pair (hr.mono (by decide)) (by rfl) m_law_pair k_law_pair b_law_pair .nil passL (pa_cons (pv 0) (pa_cons pe_int pa_nil))))
      (pss_cons (ps_set (i := 2) sc_law.nd rfl (Or.inl rfl) (pe_call G_law_pair (hr.mono (by decide)) (by rfl) m_law_pair k_law_pair b_law_pair .nil passL (pa_cons (pv 0) (pa_cons pe_int pa_nil))))
      (pss_cons (ps_for PassesOwn.never rfl (pi_range1 (by rfl) B.range (pa_cons pe_int pa_nil)) (pg_name (i := 3) sc_law.nd rfl (Or.inl rfl)) (pss_cons (ps_set (i := 4) sc_law.nd rfl (Or.inl rfl) (pe_call G_law_tried (hr.mono (by decide)) (by rfl) m_law_tried k_law_tried b_law_tried .nil passL (pa_cons (pv 3) (pa_cons (pv 1) (pa_cons (pv 2) pa_nil)))))
      (pss_cons (ps_set (i := 5) sc_law.nd rfl (Or.inl rfl) (pe_lst (pa_cons (pv 1) (pa_cons (pv 2) pa_nil))))
      (pss_cons (ps_if (pt_cmpR op_eq (pv 3) pe_int (nomark _)) (pss_one (ps_set (i := 5) sc_law.nd rfl (Or.inl rfl) (pe_lst (pa_cons (pv 1) pa_nil)))) pss_nil)
      (pss_cons (ps_set (i := 6) sc_law.nd rfl (Or.inl rfl) (pe_or (pe_cmpR op_lt (pe_callB (cr_min rfl) (by rfl) B.min (by decide +kernel) (pa_cons (pe_lc (own := [("pair", 7)]) (g := gName 7) (tt := tYes) (by rfl) sc_law.nd (pi_list (pv 5)) (blkOk_by (N := N_law) (sc := defScope s_law) (by decide +kernel)) (fun _ _ _ _ _ => pg_name (i := 7) sc_law.nd rfl (Or.inl rfl)) (fun _ _ _ _ _ => pts_nil) (fun _ _ _ _ _ => (pe_ix (r := rIxT K) ix_tup (pv 7) pe_int (fun _ _ => rfl)))) pa_nil)) pe_int (nomark _)) (pe_one (pe_cmpR op_lt (pe_callB (cr_min rfl) (by rfl) B.min (by decide +kernel) (pa_cons (pe_lc (own := [("pair", 7)]) (g := gName 7) (tt := tYes) (by rfl) sc_law.nd (pi_list (pv 5)) (blkOk_by (N := N_law) (sc := defScope s_law) (by decide +kernel)) (fun _ _ _ _ _ => pg_name (i := 7) sc_law.nd rfl (Or.inl rfl)) (fun _ _ _ _ _ => pts_nil) (fun _ _ _ _ _ => (pe_ix (r := rIxT K) ix_tup (pv 7) pe_int (fun _ _ => rfl)))) pa_nil)) pe_int (nomark _)))))
      (pss_one (ps_if (pt_val (pv 6)) (pss_one (ps_if (pt_cmpR (op_neD hr.units) (pv 4) (pe_tup (pa_cons pe_non (pa_cons (pe_lst (pa_cons pe_bl (pa_cons pe_bl (pa_cons pe_bl (pa_cons pe_bl (pa_cons pe_bl (pa_cons pe_bl pa_nil))))))) pa_nil))) (nomark _)) (pss_one (ps_ret pe_bl)) pss_nil)) (pss_one (ps_if (PW.pt (pw_and (pt_cmpR op_eq (pv 3) pe_int (nomark _)) (pw_and1 (pt_cmpR op_lt (pe_op op_mulW (pe_ix ix_tup (pv 1) pe_int (fun _ _ => rfl)) (pe_ix ix_tup (pv 2) pe_int (fun _ _ => rfl))) (pe_op op_mulW (pe_ix ix_tup (pv 2) pe_int (fun _ _ => rfl)) (pe_ix ix_tup (pv 1) pe_int (fun _ _ => rfl))) (nomark _))))) (pss_one (ps_if (pt_cmpR (op_neD hr.units) (pv 4) (pe_tup (pa_cons pe_non (pa_cons (pe_lst (pa_cons pe_bl (pa_cons pe_bl (pa_cons pe_bl (pa_cons pe_bl (pa_cons pe_bl (pa_cons pe_bl pa_nil))))))) pa_nil))) (nomark _)) (pss_one (ps_ret pe_bl)) pss_nil)) (pss_one (ps_if (pt_cmpR op_eq (pv 3) pe_int (nomark _)) (pss_one (ps_if (PW.pt (pw_or (pt_not (pt_val (pe_callB call_isi (by rfl) B.isinstance (by decide +kernel) (pa_cons (pe_ix ix_tup (pv 4) pe_int (fun _ _ => rfl)) (pa_cons (pe_bltn (v := .ty "bool") (by rfl) B.bool (by decide +kernel) rfl) pa_nil))))) (pw_or1 (pt_cmpR (op_neD hr.units) (pe_ix ix_tup (pv 4) pe_int (fun _ _ => rfl)) (pe_call G_law_due (hr.mono (by decide)) (by rfl) m_law_due k_law_due b_law_due .nil passL (pa_cons pe_int (pa_cons (pv 1) (pa_cons (pv 2) pa_nil)))) (nomark _))))) (pss_one (ps_ret pe_bl)) pss_nil)) (pss_one (ps_if (PW.pt (pw_or (pt_cmpR (op_neD hr.units) (pe_ix ix_tup (pv 4) pe_int (fun _ _ => rfl)) (pe_lst pa_nil) (nomark _)) (pw_or1 (pt_not (pt_val (pe_call G_law_fraction (hr.mono (by decide)) (by rfl) m_law_fraction k_law_fraction b_law_fraction .nil passL (pa_cons (pe_ix ix_tup (pv 4) pe_int (fun _ _ => rfl)) (pa_cons (pe_call G_law_due (hr.mono (by decide)) (by rfl) m_law_due k_law_due b_law_due .nil passL (pa_cons (pv 3) (pa_cons (pv 1) (pa_cons (pv 2) pa_nil)))) pa_nil)))))))) (pss_one (ps_ret pe_bl)) pss_nil)))))))))))))
      (pss_one (ps_ret pe_bl))))), ?_⟩
    refine ⟨_, rfl, a, ns, 0, rfl, hS, hlen, fun t u H1 A z1 z2 s1 nA eA => ?_⟩
    refine ⟨_, rfl, a, ns, 3, rfl, s1.seq hS, hlen, fun v w H2 Bd z3 z4 s2 nB eB => ?_⟩
    have eA2 := s2 _ _ eA
    refine ⟨_, rfl, by decide, by decide, ?_⟩
    refine for_range (lo := 0) (n := 4) (fun i σ H' => Same H2 H' ∧ ∃ v4 v5 v6 v7 : Option V, σ = [some (.ref a), some (.ref A), some (.ref Bd), v4, v5, v6, v7, none]) ⟨Same.refl _, none, none, none, none, rfl⟩ ?_ ?_
    · rintro i σ H3 hi ⟨s3, v4, v5, v6, v7, rfl⟩
      obtain ⟨c, ec⟩ : ∃ c : Int, (0 : Int) + (i : Int) = c := ⟨_, rfl⟩
      have hc : c = 0 ∨ c = 1 ∨ c = 2 ∨ c = 3 := by omega
      rw [ec]
      have eA3 := s3 _ _ eA2
      have eB3 := s3 _ _ eB
      refine ⟨_, rfl, _, rfl, _, rfl, c, A, Bd, t, u, v, w, rfl, SqT.of eA3, SqT.of eB3, z1, z2, z3, z4, hc, fun H4 p s4 np out => ?_⟩
      have eA4 := s4 _ _ eA3
      have eB4 := s4 _ _ eB3
      refine ⟨_, rfl, _, rfl, by show 2 ≤ sizeLine; decide, fun L nL => ?_⟩
      have s5 := same_new (o := .lst [.ref A, .ref Bd]) nL
      have eL : (upd H4 L (.lst [.ref A, .ref Bd])) L = some (.lst (twos [(A, t, u), (Bd, v, w)])) := upd_same
      dsimp only
      generalize (upd H4 L (.lst [.ref A, .ref Bd])) = H5 at s5 eL
      refine cut (fun σ' H' => Same H4 H' ∧ ∃ (M : Addr) (as : List (Addr × Int × Int)), σ' = [some (.ref a), some (.ref A), some (.ref Bd), some (.int c), some (.ref p), some (.ref M), v7, none] ∧ H' M = some (.lst (twos as)) ∧ Twos K H' as ∧ as ≠ [] ∧ as.length ≤ 2 ∧
        (((∃ x ∈ as, x.2.1 < 0) ∨ (∃ x ∈ as, x.2.2 < 1)) ↔ badF c t u v w)) (fun R D' k => ?_) ?_
      · refine ⟨_, rfl, rfl, _, rfl, ite2 (fun z => ?_) (fun z => ?_)⟩
        · have z := V.int.inj (of_decide_eq_true z)
          refine ⟨_, rfl, by show 1 ≤ sizeLine; decide, fun M nM => ?_⟩
          refine k _ _ ⟨s5.trans (same_new nM), M, [(A, t, u)], rfl, upd_same, fun x hx => ?_, by simp, by show 1 ≤ 2; decide, ?_⟩
          · rw [List.mem_singleton.mp hx]
            exact SqT.of (same_new nM _ _ (s5 _ _ eA4))
          · unfold badF
            simp [z]
        · have z : c ≠ 0 := fun y => z (decide_eq_true (congrArg V.int y))
          refine k _ _ ⟨s5, L, _, rfl, eL, fun x hx => ?_, by simp, by show 2 ≤ 2; decide, ?_⟩
          · rcases List.mem_cons.mp hx with rfl | hx
            · exact SqT.of (s5 _ _ eA4)
            · rw [List.mem_singleton.mp hx]
              exact SqT.of (s5 _ _ eB4)
          · unfold badF
            simp [z]
            omega
      · rintro σ H6 ⟨s6, M, as, rfl, eM, tw, ne, al, bad⟩
        have len : as.length ≠ 0 := fun z => ne (List.length_eq_zero_iff.mp z)
        clear s5 eL nL
        have tk : ∀ (H' : Hp) (D : Addr), Same H6 H' → H' D = some (.lst ((as.take (twos as).length).map fun x => V.int x.2.1)) → SqL K H' D ((as.map (·.2.1)).map V.int) := fun H' D s e => by
          unfold twos at e
          rw [List.length_map, List.take_length] at e
          rw [List.map_map]
          exact SqL.of e
        have bk : ∀ (H' : Hp) (D : Addr), Same H6 H' → H' D = some (.lst ((as.take (twos as).length).map fun x => V.int x.2.2)) → SqL K H' D ((as.map (·.2.2)).map V.int) := fun H' D s e => by
          unfold twos at e
          rw [List.length_map, List.take_length] at e
          rw [List.map_map]
          exact SqL.of e
        refine cut (fun σ' H' => Same H4 H' ∧ ∃ b : Bool, σ' = [some (.ref a), some (.ref A), some (.ref Bd), some (.int c), some (.ref p), some (.ref M), some (.bl b), none] ∧ (b = true ↔ badF c t u v w)) (fun R D' k => ?_) ?_
        · refine ⟨_, rfl, M, rfl, ⟨_, SqL.of eM⟩, fun D nD => ?_⟩
          refine lc_list (K := K) (a := M) (xs := twos as) (fun i H' => Same H6 H' ∧ H' D = some (.lst ((as.take i).map fun x => V.int x.2.1))) ⟨same_new nD, upd_same⟩ (fun i H' _ h => SqL.of (h.1 _ _ eM)) ?_ ?_
          · rintro i y H7 hy ⟨s7, e7⟩
            obtain ⟨x, ex, rfl⟩ := of_get_map hy
            refine ⟨rfl, _, rfl, _, _, 0, _, rfl, rfl, same_tup s7 (tw x (List.mem_of_getElem? ex)), atI_nat (j := 0) rfl, _, e7, ?_, same_mut s7 nD, ?_⟩
            · rw [List.length_map, List.length_take]
              exact szl_lt (by omega)
            · rw [upd_same, take_snoc ex, List.map_append] <;> rfl
          · rintro H7 ⟨s7, e7⟩
            refine ⟨D, _, rfl, tk _ _ s7 e7, by rw [List.length_map]; omega, fun m m1 m2 => ?_⟩
            refine ⟨_, _, rfl, rfl, _, rfl, ?_⟩
            have l1 := min_lt (k := 0) m1 m2
            refine ite2 (fun z => ?_) (fun z => ?_)
            · refine k _ _ ⟨s6.trans s7, true, rfl, ⟨fun _ => bad.mp (.inl ?_), fun _ => rfl⟩⟩
              obtain ⟨y, hy, ly⟩ := l1.mp (of_decide_eq_true z)
              obtain ⟨x, hx, rfl⟩ := List.mem_map.mp hy
              exact ⟨x, hx, ly⟩
            · refine ⟨_, rfl, M, rfl, ⟨_, SqL.of (s7 _ _ eM)⟩, fun D2 nD2 => ?_⟩
              refine lc_list (K := K) (a := M) (xs := twos as) (fun i H' => Same H6 H' ∧ H' D2 = some (.lst ((as.take i).map fun x => V.int x.2.2))) ⟨s7.trans (same_new nD2), upd_same⟩ (fun i H' _ h => SqL.of (h.1 _ _ eM)) ?_ ?_
              · rintro i y H8 hy ⟨s8, e8⟩
                obtain ⟨x, ex, rfl⟩ := of_get_map hy
                refine ⟨rfl, _, rfl, _, _, 1, _, rfl, rfl, same_tup s8 (tw x (List.mem_of_getElem? ex)), atI_nat (j := 1) rfl, _, e8, ?_, same_mut s8 (s7.free nD2), ?_⟩
                · rw [List.length_map, List.length_take]
                  exact szl_lt (by omega)
                · rw [upd_same, take_snoc ex, List.map_append] <;> rfl
              · rintro H8 ⟨s8, e8⟩
                refine ⟨D2, _, rfl, bk _ _ s8 e8, by rw [List.length_map]; omega, fun m' m1' m2' => ?_⟩
                refine ⟨_, _, rfl, rfl, ?_⟩
                have l2 := min_lt (k := 1) m1' m2'
                refine k _ _ ⟨s6.trans s8, _, rfl, ⟨fun y => bad.mp (.inr ?_), fun y => ?_⟩⟩
                · obtain ⟨y, hy, ly⟩ := l2.mp (of_decide_eq_true y)
                  obtain ⟨x, hx, rfl⟩ := List.mem_map.mp hy
                  exact ⟨x, hx, ly⟩
                · rcases bad.mpr y with ⟨x, hx, lx⟩ | ⟨x, hx, lx⟩
                  · exact absurd (decide_eq_true (l1.mpr ⟨_, List.mem_map.mpr ⟨x, hx, rfl⟩, lx⟩)) z
                  · exact decide_eq_true (l2.mpr ⟨_, List.mem_map.mpr ⟨x, hx, rfl⟩, lx⟩)
        · rintro σ H7 ⟨s7, b, rfl, hb⟩
          have s37 := (s3.trans s4).trans s7
          obtain ⟨x, l, ep, o⟩ := out
          have ep7 := s7 _ _ ep
          have eA7 := s7 _ _ eA4
          have eB7 := s7 _ _ eB4
          refine ⟨_, rfl, _, rfl, ite2 (fun y => ?_) (fun y => ?_)⟩
          · have bd := hb.mp y
            obtain ⟨_, rfl, el⟩ := (o.resolve_right fun z => z.elim (fun z => z.1 bd) (fun z => z.1 bd))
            have el7 := s7 _ _ el
            refine ⟨_, rfl, by show 6 ≤ sizeLine; decide, fun l2 nl2 => ⟨by show 2 ≤ sizeLine; decide, fun p2 np2 => ?_⟩⟩
            have s8 := (same_new (o := .lst [.bl true, .bl false, .bl false, .bl false, .bl false, .bl true]) nl2).trans (same_new (o := .tup [.non, .ref l2]) np2)
            refine ⟨_, _, dp_none (s8 _ _ ep7) (s8 _ _ el7), dp_none upd_same (same_new np2 _ _ upd_same), rfl, rfl, _, rfl, ?_⟩
            rw [eqv_none]
            show if (!true) = true then _ else _
            refine iteF ⟨s37.trans s8, _, _, _, _, rfl⟩
          · have bd : ¬ badF c t u v w := fun z => y (hb.mpr z)
            have o := o.resolve_left fun z => bd z.1
            refine ⟨_, rfl, rfl, _, rfl, ite2 (fun c3 => ?_) (fun c3 => ?_)⟩
            · have c3 := V.int.inj (of_decide_eq_true c3)
              refine ⟨_, rfl, A, _, 0, _, rfl, rfl, SqT.of eA7, atI_nat (j := 0) rfl, _, rfl, Bd, _, 1, _, rfl, rfl, SqT.of eB7, atI_nat (j := 1) rfl, _, _, rfl, rfl, z1.cm z4, ?_⟩
              refine ⟨_, rfl, Bd, _, 0, _, rfl, rfl, SqT.of eB7, atI_nat (j := 0) rfl, _, rfl, A, _, 1, _, rfl, rfl, SqT.of eA7, atI_nat (j := 1) rfl, _, _, rfl, rfl, z3.cm z2, _, _, rfl, rfl, _, rfl, ite2 (fun lt => ?_) (fun lt => ?_)⟩
              · have lt : t * w < v * u := of_decide_eq_true lt
                obtain ⟨_, _, _, rfl, el⟩ := (o.resolve_right fun z => z.2.2.elim (fun z => absurd (c3.symm.trans z.1) (by decide)) (fun z => by have := z.2.1 c3; omega))
                have el7 := s7 _ _ el
                refine ⟨_, rfl, by show 6 ≤ sizeLine; decide, fun l2 nl2 => ⟨by show 2 ≤ sizeLine; decide, fun p2 np2 => ?_⟩⟩
                have s8 := (same_new (o := .lst [.bl false, .bl true, .bl false, .bl false, .bl false, .bl true]) nl2).trans (same_new (o := .tup [.non, .ref l2]) np2)
                refine ⟨_, _, dp_none (s8 _ _ ep7) (s8 _ _ el7), dp_none upd_same (same_new np2 _ _ upd_same), rfl, rfl, _, rfl, ?_⟩
                rw [eqv_none]
                show if (!true) = true then _ else _
                refine iteF ⟨s37.trans s8, _, _, _, _, rfl⟩
              · have ge0 : v * u ≤ t * w := by
                  have : ¬ t * w < v * u := fun z => lt (decide_eq_true z)
                  omega
                have c2 : c ≠ 2 := by omega
                obtain ⟨_, el, o⟩ := o.resolve_left fun z => by have := z.2.2.1; omega
                obtain ⟨_, ge, r, rfl, er⟩ := o.resolve_left fun z => c2 z.1
                have el7 := s7 _ _ el
                refine ⟨_, rfl, rfl, _, rfl, ite2 (fun z => absurd (V.int.inj (of_decide_eq_true z)) c2) (fun _ => ?_)⟩
                refine ⟨_, rfl, p, _, 1, _, rfl, rfl, SqT.of ep7, atI_nat (j := 1) rfl, Nat.zero_le _, fun l2 nl2 => ?_⟩
                have s8 := same_new (o := .lst []) nl2
                refine ⟨_, _, dp_nil (s8 _ _ el7), dp_nil upd_same, rfl, rfl, _, rfl, ?_⟩
                rw [eqv_nil]
                show if (!true) = true then _ else _
                refine iteF ?_
                have ep8 := s8 _ _ ep7
                have er8 := s8 _ _ (s7 _ _ er)
                have eA8 := s8 _ _ eA7
                have eB8 := s8 _ _ eB7
                have s9 := s37.trans s8
                generalize upd H7 l2 (.lst []) = H8 at ep8 er8 eA8 eB8 s9
                refine ⟨_, rfl, p, _, 0, _, rfl, rfl, SqT.of ep8, atI_nat (j := 0) rfl, _, rfl, _, rfl, _, rfl, c, A, Bd, t, u, v, w, rfl, SqT.of eA8, SqT.of eB8, z1, z2, z3, z4, ⟨bd, ?_⟩, fun z => absurd z c2, fun _ H9 d s10 nd ed => ?_⟩
                · rcases hc with z | z | z | z
                  · exact .inl z
                  · exact .inr (.inl z)
                  · exact .inr (.inr (.inl z))
                  · exact .inr (.inr (.inr ⟨z, ge z⟩))
                · refine ⟨r, d, _, _, rfl, SqT.of (s10 _ _ er8), SqT.of ed, _, rfl, ?_⟩
                  show if (!true) = true then _ else _
                  exact iteF ⟨s9.trans s10, _, _, _, _, rfl⟩
            · have c3 : c ≠ 3 := fun z => c3 (decide_eq_true (congrArg V.int z))
              obtain ⟨_, el, o⟩ := o.resolve_left fun z => c3 z.2.1
              have el7 := s7 _ _ el
              refine iteF ?_
              refine ⟨_, rfl, rfl, _, rfl, ite2 (fun c2 => ?_) (fun c2 => ?_)⟩
              · have c2 := V.int.inj (of_decide_eq_true c2)
                obtain ⟨_, rfl⟩ := o.resolve_right fun z => z.1 c2
                refine ⟨_, rfl, p, _, 0, _, rfl, rfl, SqT.of ep7, atI_nat (j := 0) rfl, _, _, _, _, true, rfl, .ty "bool", .base (.bl _), kit_ty (by decide +kernel), true, rfl, ?_⟩
                show if (!true) = true then _ else _
                refine iteF ?_
                refine ⟨_, rfl, p, _, 0, _, rfl, rfl, SqT.of ep7, atI_nat (j := 0) rfl, _, rfl, _, rfl, 2, A, Bd, t, u, v, w, rfl, SqT.of eA7, SqT.of eB7, z1, z2, z3, z4, ⟨c2 ▸ bd, .inr (.inr (.inl rfl))⟩, fun _ => ?_, fun z => absurd rfl z⟩
                refine ⟨_, _, .bl _, .bl _, rfl, rfl, _, rfl, ?_⟩
                rw [eqv_bl]
                show if (!true) = true then _ else _
                exact iteF ⟨s37, _, _, _, _, rfl⟩
              · have c2 : c ≠ 2 := fun z => c2 (decide_eq_true (congrArg V.int z))
                obtain ⟨_, ge, r, rfl, er⟩ := o.resolve_left fun z => c2 z.1
                refine ⟨_, rfl, p, _, 1, _, rfl, rfl, SqT.of ep7, atI_nat (j := 1) rfl, Nat.zero_le _, fun l2 nl2 => ?_⟩
                have s8 := same_new (o := .lst []) nl2
                refine ⟨_, _, dp_nil (s8 _ _ el7), dp_nil upd_same, rfl, rfl, _, rfl, ?_⟩
                rw [eqv_nil]
                show if (!true) = true then _ else _
                refine iteF ?_
                have ep8 := s8 _ _ ep7
                have er8 := s8 _ _ (s7 _ _ er)
                have eA8 := s8 _ _ eA7
                have eB8 := s8 _ _ eB7
                have s9 := s37.trans s8
                generalize upd H7 l2 (.lst []) = H8 at ep8 er8 eA8 eB8 s9
                refine ⟨_, rfl, p, _, 0, _, rfl, rfl, SqT.of ep8, atI_nat (j := 0) rfl, _, rfl, _, rfl, _, rfl, c, A, Bd, t, u, v, w, rfl, SqT.of eA8, SqT.of eB8, z1, z2, z3, z4, ⟨bd, ?_⟩, fun z => absurd z c2, fun _ H9 d s10 nd ed => ?_⟩
                · rcases hc with z | z | z | z
                  · exact .inl z
                  · exact .inr (.inl z)
                  · exact .inr (.inr (.inl z))
                  · exact .inr (.inr (.inr ⟨z, ge z⟩))
                · refine ⟨r, d, _, _, rfl, SqT.of (s10 _ _ er8), SqT.of ed, _, rfl, ?_⟩
                  show if (!true) = true then _ else _
                  exact iteF ⟨s9.trans s10, _, _, _, _, rfl⟩
    · rintro σ H3 ⟨s3, v4, v5, v6, v7, rfl⟩
      exact kq _

end

theorem all_mk {l : PySem.W.OpenLaw} {w : World} {K : PySem.W.Frag} {h : Heap} {mg : Str → Option Value} {fa : Addr} (X : K.In h) (G : h.Ns mainGlobals mg) (hfa : mg "law" = some (.ref fa))
    {f0 : Addr} {od0 an0 : Option Addr} {sl0 : Array (Option Value)} {oc0 kV0 dc0 pm0 cd0 ct0 : Value}
    {f1 : Addr} {od1 an1 : Option Addr} {sl1 : Array (Option Value)} {oc1 kV1 dc1 pm1 cd1 ct1 : Value}
    {f2 : Addr} {od2 an2 : Option Addr} {sl2 : Array (Option Value)} {oc2 kV2 dc2 pm2 cd2 ct2 : Value}
    {f3 : Addr} {od3 an3 : Option Addr} {sl3 : Array (Option Value)} {oc3 kV3 dc3 pm3 cd3 ct3 : Value}
    {f4 : Addr} {od4 an4 : Option Addr} {sl4 : Array (Option Value)} {oc4 kV4 dc4 pm4 cd4 ct4 : Value}
    {f5 : Addr} {od5 an5 : Option Addr} {sl5 : Array (Option Value)} {oc5 kV5 dc5 pm5 cd5 ct5 : Value}
    {f6 : Addr} {od6 an6 : Option Addr} {sl6 : Array (Option Value)} {oc6 kV6 dc6 pm6 cd6 ct6 : Value}
    {f7 : Addr} {od7 an7 : Option Addr} {sl7 : Array (Option Value)} {oc7 kV7 dc7 pm7 cd7 ct7 : Value}
    {f8 : Addr} {od8 an8 : Option Addr} {sl8 : Array (Option Value)} {oc8 kV8 dc8 pm8 cd8 ct8 : Value}
    {f9 : Addr} {od9 an9 : Option Addr} {sl9 : Array (Option Value)} {oc9 kV9 dc9 pm9 cd9 ct9 : Value}
    {f10 : Addr} {od10 an10 : Option Addr} {sl10 : Array (Option Value)} {oc10 kV10 dc10 pm10 cd10 ct10 : Value}
    {f11 : Addr} {od11 an11 : Option Addr} {sl11 : Array (Option Value)} {oc11 kV11 dc11 pm11 cd11 ct11 : Value}
    {f12 : Addr} {od12 an12 : Option Addr} {sl12 : Array (Option Value)} {oc12 kV12 dc12 pm12 cd12 ct12 : Value}
    {f13 : Addr} {od13 an13 : Option Addr} {sl13 : Array (Option Value)} {oc13 kV13 dc13 pm13 cd13 ct13 : Value}
    {f14 : Addr} {od14 an14 : Option Addr} {sl14 : Array (Option Value)} {oc14 kV14 dc14 pm14 cd14 ct14 : Value}
    {f15 : Addr} {od15 an15 : Option Addr} {sl15 : Array (Option Value)} {oc15 kV15 dc15 pm15 cd15 ct15 : Value}
    {f16 : Addr} {od16 an16 : Option Addr} {sl16 : Array (Option Value)} {oc16 kV16 dc16 pm16 cd16 ct16 : Value}
    {CShareError : Addr}
    {CNoFraction : Addr}
    {CNotBelow : Addr}
    {CTooGreat : Addr}
    {CBadText : Addr}
    {CNotRising : Addr}
    (a0 : PySem.W.nsIn K mainGlobals "see" = some (some (.ref f0)))
    (l0 : K.lookup f0 = some ⟨oc0, od0, .func (PySem.W.fnOf "see" "see" (defArgs s_see) (defBody s_see) (defScope s_see) .none kV0 dc0 pm0 an0 cd0 ct0), sl0⟩)
    (c0 : PySem.W.codeIn K cd0 "see" = true)
    (k0 : PySem.W.keepIn K (.ref f0) = true)
    (a1 : PySem.W.nsIn K mainGlobals "common" = some (some (.ref f1)))
    (l1 : K.lookup f1 = some ⟨oc1, od1, .func (PySem.W.fnOf "common" "common" (defArgs s_common) (defBody s_common) (defScope s_common) .none kV1 dc1 pm1 an1 cd1 ct1), sl1⟩)
    (c1 : PySem.W.codeIn K cd1 "common" = true)
    (k1 : PySem.W.keepIn K (.ref f1) = true)
    (a2 : PySem.W.nsIn K mainGlobals "lowest" = some (some (.ref f2)))
    (l2 : K.lookup f2 = some ⟨oc2, od2, .func (PySem.W.fnOf "lowest" "lowest" (defArgs s_lowest) (defBody s_lowest) (defScope s_lowest) .none kV2 dc2 pm2 an2 cd2 ct2), sl2⟩)
    (c2 : PySem.W.codeIn K cd2 "lowest" = true)
    (k2 : PySem.W.keepIn K (.ref f2) = true)
    (a3 : PySem.W.nsIn K mainGlobals "added" = some (some (.ref f3)))
    (l3 : K.lookup f3 = some ⟨oc3, od3, .func (PySem.W.fnOf "added" "added" (defArgs s_added) (defBody s_added) (defScope s_added) .none kV3 dc3 pm3 an3 cd3 ct3), sl3⟩)
    (c3 : PySem.W.codeIn K cd3 "added" = true)
    (k3 : PySem.W.keepIn K (.ref f3) = true)
    (a4 : PySem.W.nsIn K mainGlobals "less" = some (some (.ref f4)))
    (l4 : K.lookup f4 = some ⟨oc4, od4, .func (PySem.W.fnOf "less" "less" (defArgs s_less) (defBody s_less) (defScope s_less) .none kV4 dc4 pm4 an4 cd4 ct4), sl4⟩)
    (c4 : PySem.W.codeIn K cd4 "less" = true)
    (k4 : PySem.W.keepIn K (.ref f4) = true)
    (a5 : PySem.W.nsIn K mainGlobals "taken" = some (some (.ref f5)))
    (l5 : K.lookup f5 = some ⟨oc5, od5, .func (PySem.W.fnOf "taken" "taken" (defArgs s_taken) (defBody s_taken) (defScope s_taken) .none kV5 dc5 pm5 an5 cd5 ct5), sl5⟩)
    (c5 : PySem.W.codeIn K cd5 "taken" = true)
    (k5 : PySem.W.keepIn K (.ref f5) = true)
    (a6 : PySem.W.nsIn K mainGlobals "_law_cell_at" = some (some (.ref f6)))
    (l6 : K.lookup f6 = some ⟨oc6, od6, .func (PySem.W.fnOf "_law_cell_at" "_law_cell_at" (defArgs s_law_cell_at) (defBody s_law_cell_at) (defScope s_law_cell_at) .none kV6 dc6 pm6 an6 cd6 ct6), sl6⟩)
    (c6 : PySem.W.codeIn K cd6 "_law_cell_at" = true)
    (k6 : PySem.W.keepIn K (.ref f6) = true)
    (a7 : PySem.W.nsIn K mainGlobals "_law_whole" = some (some (.ref f7)))
    (l7 : K.lookup f7 = some ⟨oc7, od7, .func (PySem.W.fnOf "_law_whole" "_law_whole" (defArgs s_law_whole) (defBody s_law_whole) (defScope s_law_whole) .none kV7 dc7 pm7 an7 cd7 ct7), sl7⟩)
    (c7 : PySem.W.codeIn K cd7 "_law_whole" = true)
    (k7 : PySem.W.keepIn K (.ref f7) = true)
    (a8 : PySem.W.nsIn K mainGlobals "_law_common" = some (some (.ref f8)))
    (l8 : K.lookup f8 = some ⟨oc8, od8, .func (PySem.W.fnOf "_law_common" "_law_common" (defArgs s_law_common) (defBody s_law_common) (defScope s_law_common) .none kV8 dc8 pm8 an8 cd8 ct8), sl8⟩)
    (c8 : PySem.W.codeIn K cd8 "_law_common" = true)
    (k8 : PySem.W.keepIn K (.ref f8) = true)
    (a9 : PySem.W.nsIn K mainGlobals "_law_lowest" = some (some (.ref f9)))
    (l9 : K.lookup f9 = some ⟨oc9, od9, .func (PySem.W.fnOf "_law_lowest" "_law_lowest" (defArgs s_law_lowest) (defBody s_law_lowest) (defScope s_law_lowest) .none kV9 dc9 pm9 an9 cd9 ct9), sl9⟩)
    (c9 : PySem.W.codeIn K cd9 "_law_lowest" = true)
    (k9 : PySem.W.keepIn K (.ref f9) = true)
    (a10 : PySem.W.nsIn K mainGlobals "_law_fraction" = some (some (.ref f10)))
    (l10 : K.lookup f10 = some ⟨oc10, od10, .func (PySem.W.fnOf "_law_fraction" "_law_fraction" (defArgs s_law_fraction) (defBody s_law_fraction) (defScope s_law_fraction) .none kV10 dc10 pm10 an10 cd10 ct10), sl10⟩)
    (c10 : PySem.W.codeIn K cd10 "_law_fraction" = true)
    (k10 : PySem.W.keepIn K (.ref f10) = true)
    (a11 : PySem.W.nsIn K mainGlobals "_law_kind" = some (some (.ref f11)))
    (l11 : K.lookup f11 = some ⟨oc11, od11, .func (PySem.W.fnOf "_law_kind" "_law_kind" (defArgs s_law_kind) (defBody s_law_kind) (defScope s_law_kind) .none kV11 dc11 pm11 an11 cd11 ct11), sl11⟩)
    (c11 : PySem.W.codeIn K cd11 "_law_kind" = true)
    (k11 : PySem.W.keepIn K (.ref f11) = true)
    (a12 : PySem.W.nsIn K mainGlobals "_law_pair" = some (some (.ref f12)))
    (l12 : K.lookup f12 = some ⟨oc12, od12, .func (PySem.W.fnOf "_law_pair" "_law_pair" (defArgs s_law_pair) (defBody s_law_pair) (defScope s_law_pair) .none kV12 dc12 pm12 an12 cd12 ct12), sl12⟩)
    (c12 : PySem.W.codeIn K cd12 "_law_pair" = true)
    (k12 : PySem.W.keepIn K (.ref f12) = true)
    (a13 : PySem.W.nsIn K mainGlobals "_law_call" = some (some (.ref f13)))
    (l13 : K.lookup f13 = some ⟨oc13, od13, .func (PySem.W.fnOf "_law_call" "_law_call" (defArgs s_law_call) (defBody s_law_call) (defScope s_law_call) .none kV13 dc13 pm13 an13 cd13 ct13), sl13⟩)
    (c13 : PySem.W.codeIn K cd13 "_law_call" = true)
    (k13 : PySem.W.keepIn K (.ref f13) = true)
    (a14 : PySem.W.nsIn K mainGlobals "_law_tried" = some (some (.ref f14)))
    (l14 : K.lookup f14 = some ⟨oc14, od14, .func (PySem.W.fnOf "_law_tried" "_law_tried" (defArgs s_law_tried) (defBody s_law_tried) (defScope s_law_tried) .none kV14 dc14 pm14 an14 cd14 ct14), sl14⟩)
    (c14 : PySem.W.codeIn K cd14 "_law_tried" = true)
    (k14 : PySem.W.keepIn K (.ref f14) = true)
    (a15 : PySem.W.nsIn K mainGlobals "_law_due" = some (some (.ref f15)))
    (l15 : K.lookup f15 = some ⟨oc15, od15, .func (PySem.W.fnOf "_law_due" "_law_due" (defArgs s_law_due) (defBody s_law_due) (defScope s_law_due) .none kV15 dc15 pm15 an15 cd15 ct15), sl15⟩)
    (c15 : PySem.W.codeIn K cd15 "_law_due" = true)
    (k15 : PySem.W.keepIn K (.ref f15) = true)
    (a16 : PySem.W.nsIn K mainGlobals "law" = some (some (.ref f16)))
    (l16 : K.lookup f16 = some ⟨oc16, od16, .func (PySem.W.fnOf "law" "law" (defArgs s_law) (defBody s_law) (defScope s_law) .none kV16 dc16 pm16 an16 cd16 ct16), sl16⟩)
    (c16 : PySem.W.codeIn K cd16 "law" = true)
    (k16 : PySem.W.keepIn K (.ref f16) = true)
    (z0 : PySem.W.nsIn K mainGlobals "len" = some none)
    (z1 : PySem.W.nsIn K mainGlobals "range" = some none)
    (z2 : PySem.W.nsIn K mainGlobals "min" = some none)
    (z3 : PySem.W.nsIn K mainGlobals "max" = some none)
    (z4 : PySem.W.nsIn K mainGlobals "sum" = some none)
    (z5 : PySem.W.nsIn K mainGlobals "sorted" = some none)
    (z6 : PySem.W.nsIn K mainGlobals "set" = some none)
    (z7 : PySem.W.nsIn K mainGlobals "dict" = some none)
    (z8 : PySem.W.nsIn K mainGlobals "list" = some none)
    (z9 : PySem.W.nsIn K mainGlobals "str" = some none)
    (z10 : PySem.W.nsIn K mainGlobals "int" = some none)
    (z11 : PySem.W.nsIn K mainGlobals "isinstance" = some none)
    (z12 : PySem.W.nsIn K mainGlobals "bool" = some none)
    (z13 : PySem.W.nsIn K mainGlobals "tuple" = some none)
    (z14 : PySem.W.nsIn K mainGlobals "ValueError" = some none)
    (nShareError : PySem.W.nsIn K mainGlobals "ShareError" = some (some (.ref CShareError)))
    (e0ShareError : PySem.W.excIn K CShareError veT "ValueError.__new__" = true)
    (e1ShareError : PySem.W.keepIn K (.ref CShareError) = true)
    (e2ShareError : PySem.W.subIn K (.ref CShareError) (.type "BaseException") = some true)
    (e3ShareError : PySem.W.typeIn K (.ref CShareError) = some (.type "type"))
    (nNoFraction : PySem.W.nsIn K mainGlobals "NoFraction" = some (some (.ref CNoFraction)))
    (e0NoFraction : PySem.W.excIn K CNoFraction veT "ValueError.__new__" = true)
    (e1NoFraction : PySem.W.keepIn K (.ref CNoFraction) = true)
    (e2NoFraction : PySem.W.subIn K (.ref CNoFraction) (.type "BaseException") = some true)
    (e3NoFraction : PySem.W.typeIn K (.ref CNoFraction) = some (.type "type"))
    (nNotBelow : PySem.W.nsIn K mainGlobals "NotBelow" = some (some (.ref CNotBelow)))
    (e0NotBelow : PySem.W.excIn K CNotBelow veT "ValueError.__new__" = true)
    (e1NotBelow : PySem.W.keepIn K (.ref CNotBelow) = true)
    (e2NotBelow : PySem.W.subIn K (.ref CNotBelow) (.type "BaseException") = some true)
    (e3NotBelow : PySem.W.typeIn K (.ref CNotBelow) = some (.type "type"))
    (nTooGreat : PySem.W.nsIn K mainGlobals "TooGreat" = some (some (.ref CTooGreat)))
    (e0TooGreat : PySem.W.excIn K CTooGreat veT "ValueError.__new__" = true)
    (e1TooGreat : PySem.W.keepIn K (.ref CTooGreat) = true)
    (e2TooGreat : PySem.W.subIn K (.ref CTooGreat) (.type "BaseException") = some true)
    (e3TooGreat : PySem.W.typeIn K (.ref CTooGreat) = some (.type "type"))
    (nBadText : PySem.W.nsIn K mainGlobals "BadText" = some (some (.ref CBadText)))
    (e0BadText : PySem.W.excIn K CBadText veT "ValueError.__new__" = true)
    (e1BadText : PySem.W.keepIn K (.ref CBadText) = true)
    (e2BadText : PySem.W.subIn K (.ref CBadText) (.type "BaseException") = some true)
    (e3BadText : PySem.W.typeIn K (.ref CBadText) = some (.type "type"))
    (nNotRising : PySem.W.nsIn K mainGlobals "NotRising" = some (some (.ref CNotRising)))
    (e0NotRising : PySem.W.excIn K CNotRising veT "ValueError.__new__" = true)
    (e1NotRising : PySem.W.keepIn K (.ref CNotRising) = true)
    (e2NotRising : PySem.W.subIn K (.ref CNotRising) (.type "BaseException") = some true)
    (e3NotRising : PySem.W.typeIn K (.ref CNotRising) = some (.type "type"))
    (hdShareError : PySem.W.hasDictIn K CShareError = true)
    (hdNoFraction : PySem.W.hasDictIn K CNoFraction = true)
    (hdNotBelow : PySem.W.hasDictIn K CNotBelow = true)
    (hdTooGreat : PySem.W.hasDictIn K CTooGreat = true)
    (hdBadText : PySem.W.hasDictIn K CBadText = true)
    (hdNotRising : PySem.W.hasDictIn K CNotRising = true)
    (x0NoFraction : PySem.W.findIn K (.ref CNoFraction) "__getattribute__" = some (some (.builtin "BaseException.__getattribute__")))
    (x1NoFraction : PySem.W.findIn K (.ref CNoFraction) "__getattr__" = some none)
    (x2NoFraction : PySem.W.subIn K (.ref CNoFraction) (.type "BaseException") = some true)
    (x4NoFraction : PySem.W.findIn K (.ref CNoFraction) "__class__" = some (some (.builtin "object.__class__")))
    (x5NoFraction : PySem.W.specialIn K (.builtin "object.__class__") "__get__" = some (some (.builtin "getset_descriptor.__get__")))
    (x6NoFraction : PySem.W.takesIn K (.builtin "object.__class__") = some true)
    (x7NoFraction : PySem.W.mroIn K CNoFraction (.type "object") = some true)
    (sNoFraction : PySem.W.subIn K (.ref CNoFraction) (.ref CShareError) = some true)
    (y0NoFraction : PySem.W.subIn K (.ref CNoFraction) (.ref CNoFraction) = some true)
    (y1NoFraction : PySem.W.subIn K (.ref CNoFraction) (.ref CNotBelow) = some false)
    (y2NoFraction : PySem.W.subIn K (.ref CNoFraction) (.ref CTooGreat) = some false)
    (y3NoFraction : PySem.W.subIn K (.ref CNoFraction) (.ref CBadText) = some false)
    (y4NoFraction : PySem.W.subIn K (.ref CNoFraction) (.ref CNotRising) = some false)
    (y5NoFraction : PySem.W.subIn K (.ref CNoFraction) (.type "ValueError") = some true)
    (x0NotBelow : PySem.W.findIn K (.ref CNotBelow) "__getattribute__" = some (some (.builtin "BaseException.__getattribute__")))
    (x1NotBelow : PySem.W.findIn K (.ref CNotBelow) "__getattr__" = some none)
    (x2NotBelow : PySem.W.subIn K (.ref CNotBelow) (.type "BaseException") = some true)
    (x4NotBelow : PySem.W.findIn K (.ref CNotBelow) "__class__" = some (some (.builtin "object.__class__")))
    (x5NotBelow : PySem.W.specialIn K (.builtin "object.__class__") "__get__" = some (some (.builtin "getset_descriptor.__get__")))
    (x6NotBelow : PySem.W.takesIn K (.builtin "object.__class__") = some true)
    (x7NotBelow : PySem.W.mroIn K CNotBelow (.type "object") = some true)
    (sNotBelow : PySem.W.subIn K (.ref CNotBelow) (.ref CShareError) = some true)
    (y0NotBelow : PySem.W.subIn K (.ref CNotBelow) (.ref CNoFraction) = some false)
    (y1NotBelow : PySem.W.subIn K (.ref CNotBelow) (.ref CNotBelow) = some true)
    (y2NotBelow : PySem.W.subIn K (.ref CNotBelow) (.ref CTooGreat) = some false)
    (y3NotBelow : PySem.W.subIn K (.ref CNotBelow) (.ref CBadText) = some false)
    (y4NotBelow : PySem.W.subIn K (.ref CNotBelow) (.ref CNotRising) = some false)
    (y5NotBelow : PySem.W.subIn K (.ref CNotBelow) (.type "ValueError") = some true)
    : ∃ fd : FuncData, (∀ (s : Shared) (v : Value), BindsTo s fd ⟨[v], []⟩ [("script", v)]) ∧ ∀ base : Heap, K.In base → base.Ns mainGlobals mg → FnOk l.prog w K mg base CX0 6 fa fd ["script"] (sp_law K) := by
  have ef := hfa.symm.trans (PySem.W.mg_of X G a16)
  cases ef
  have B : Bi mg := ⟨PySem.W.mg_none_of X G z0, PySem.W.mg_none_of X G z1, PySem.W.mg_none_of X G z2, PySem.W.mg_none_of X G z3, PySem.W.mg_none_of X G z4, PySem.W.mg_none_of X G z5, PySem.W.mg_none_of X G z6, PySem.W.mg_none_of X G z7, PySem.W.mg_none_of X G z8, PySem.W.mg_none_of X G z9, PySem.W.mg_none_of X G z10, PySem.W.mg_none_of X G z11, PySem.W.mg_none_of X G z12, PySem.W.mg_none_of X G z13, PySem.W.mg_none_of X G z14⟩
  have Er : ErrOk K mg ⟨CShareError, CNoFraction, CNotBelow, CTooGreat, CBadText, CNotRising⟩ := ⟨⟨PySem.W.mg_of X G nShareError, e0ShareError, e1ShareError, e2ShareError, e3ShareError⟩, ⟨PySem.W.mg_of X G nNoFraction, e0NoFraction, e1NoFraction, e2NoFraction, e3NoFraction⟩, ⟨PySem.W.mg_of X G nNotBelow, e0NotBelow, e1NotBelow, e2NotBelow, e3NotBelow⟩, ⟨PySem.W.mg_of X G nTooGreat, e0TooGreat, e1TooGreat, e2TooGreat, e3TooGreat⟩, ⟨PySem.W.mg_of X G nBadText, e0BadText, e1BadText, e2BadText, e3BadText⟩, ⟨PySem.W.mg_of X G nNotRising, e0NotRising, e1NotRising, e2NotRising, e3NotRising⟩, PySem.W.exm_ref e2ShareError hdShareError e3ShareError sNoFraction, ⟨⟨x0NoFraction, x1NoFraction, x2NoFraction, hdNoFraction, x4NoFraction, x5NoFraction, x6NoFraction, x7NoFraction⟩, kit_refs hdNoFraction e3NoFraction y0NoFraction y0NoFraction, kit_refs hdNotBelow e3NotBelow y1NoFraction y0NoFraction, kit_refs hdTooGreat e3TooGreat y2NoFraction y0NoFraction, kit_refs hdBadText e3BadText y3NoFraction y0NoFraction, kit_refs hdNotRising e3NotRising y4NoFraction y0NoFraction, kit_ve y5NoFraction⟩, PySem.W.exm_ref e2ShareError hdShareError e3ShareError sNotBelow, ⟨⟨x0NotBelow, x1NotBelow, x2NotBelow, hdNotBelow, x4NotBelow, x5NotBelow, x6NotBelow, x7NotBelow⟩, kit_refs hdNoFraction e3NoFraction y0NotBelow y1NotBelow, kit_refs hdNotBelow e3NotBelow y1NotBelow y1NotBelow, kit_refs hdTooGreat e3TooGreat y2NotBelow y1NotBelow, kit_refs hdBadText e3BadText y3NotBelow y1NotBelow, kit_refs hdNotRising e3NotRising y4NotBelow y1NotBelow, kit_ve y5NotBelow⟩⟩
  have S_see : Stands K mg "see" s_see := ⟨_, _, fun_mk (st := s_see) l0 c0 k0, PySem.W.mg_of X G a0⟩
  have S_common : Stands K mg "common" s_common := ⟨_, _, fun_mk (st := s_common) l1 c1 k1, PySem.W.mg_of X G a1⟩
  have S_lowest : Stands K mg "lowest" s_lowest := ⟨_, _, fun_mk (st := s_lowest) l2 c2 k2, PySem.W.mg_of X G a2⟩
  have S_added : Stands K mg "added" s_added := ⟨_, _, fun_mk (st := s_added) l3 c3 k3, PySem.W.mg_of X G a3⟩
  have S_less : Stands K mg "less" s_less := ⟨_, _, fun_mk (st := s_less) l4 c4 k4, PySem.W.mg_of X G a4⟩
  have S_taken : Stands K mg "taken" s_taken := ⟨_, _, fun_mk (st := s_taken) l5 c5 k5, PySem.W.mg_of X G a5⟩
  have S_law_cell_at : Stands K mg "_law_cell_at" s_law_cell_at := ⟨_, _, fun_mk (st := s_law_cell_at) l6 c6 k6, PySem.W.mg_of X G a6⟩
  have S_law_whole : Stands K mg "_law_whole" s_law_whole := ⟨_, _, fun_mk (st := s_law_whole) l7 c7 k7, PySem.W.mg_of X G a7⟩
  have S_law_common : Stands K mg "_law_common" s_law_common := ⟨_, _, fun_mk (st := s_law_common) l8 c8 k8, PySem.W.mg_of X G a8⟩
  have S_law_lowest : Stands K mg "_law_lowest" s_law_lowest := ⟨_, _, fun_mk (st := s_law_lowest) l9 c9 k9, PySem.W.mg_of X G a9⟩
  have S_law_fraction : Stands K mg "_law_fraction" s_law_fraction := ⟨_, _, fun_mk (st := s_law_fraction) l10 c10 k10, PySem.W.mg_of X G a10⟩
  have S_law_kind : Stands K mg "_law_kind" s_law_kind := ⟨_, _, fun_mk (st := s_law_kind) l11 c11 k11, PySem.W.mg_of X G a11⟩
  have S_law_pair : Stands K mg "_law_pair" s_law_pair := ⟨_, _, fun_mk (st := s_law_pair) l12 c12 k12, PySem.W.mg_of X G a12⟩
  have S_law_call : Stands K mg "_law_call" s_law_call := ⟨_, _, fun_mk (st := s_law_call) l13 c13 k13, PySem.W.mg_of X G a13⟩
  have S_law_tried : Stands K mg "_law_tried" s_law_tried := ⟨_, _, fun_mk (st := s_law_tried) l14 c14 k14, PySem.W.mg_of X G a14⟩
  have S_law_due : Stands K mg "_law_due" s_law_due := ⟨_, _, fun_mk (st := s_law_due) l15 c15 k15, PySem.W.mg_of X G a15⟩
  refine ⟨PySem.W.fnOf "law" "law" (defArgs s_law) (defBody s_law) (defScope s_law) .none kV16 dc16 pm16 an16 cd16 ct16, fun s v => .of_eq rfl, fun base _ _ => ?_⟩
  have O_see := ok_see (P := l.prog) (w := w) (base := base) S_see B Er 
  have O_common := ok_common (P := l.prog) (w := w) (base := base) S_common B Er 
  have O_lowest := ok_lowest (P := l.prog) (w := w) (base := base) S_lowest B Er O_see O_common
  have O_added := ok_added (P := l.prog) (w := w) (base := base) S_added B Er O_see O_lowest
  have O_less := ok_less (P := l.prog) (w := w) (base := base) S_less B Er O_see
  have O_taken := ok_taken (P := l.prog) (w := w) (base := base) S_taken B Er O_less O_lowest
  have O_law_cell_at := ok_law_cell_at (P := l.prog) (w := w) (base := base) S_law_cell_at B Er 
  have O_law_whole := ok_law_whole (P := l.prog) (w := w) (base := base) S_law_whole B Er 
  have O_law_common := ok_law_common (P := l.prog) (w := w) (base := base) S_law_common B Er 
  have O_law_lowest := ok_law_lowest (P := l.prog) (w := w) (base := base) S_law_lowest B Er O_law_common
  have O_law_fraction := ok_law_fraction (P := l.prog) (w := w) (base := base) S_law_fraction B Er O_law_whole
  have O_law_kind := ok_law_kind (P := l.prog) (w := w) (base := base) S_law_kind B Er 
  have O_law_pair := ok_law_pair (P := l.prog) (w := w) (base := base) S_law_pair B Er O_law_cell_at
  have O_law_call := ok_law_call (P := l.prog) (w := w) (base := base) S_law_call B Er O_taken O_lowest O_added O_less
  have O_law_tried := ok_law_tried (P := l.prog) (w := w) (base := base) S_law_tried B Er O_law_call O_law_kind
  have O_law_due := ok_law_due (P := l.prog) (w := w) (base := base) S_law_due B Er O_law_lowest
  exact ok_law (P := l.prog) (w := w) (base := base) (fun_mk (st := s_law) l16 c16 k16) B Er O_law_pair O_law_tried O_law_due O_law_fraction
end U
open PySem PySem.W PyProof.Rows
set_option maxHeartbeats 0 in
theorem PySem.Challenge.cw_unitshares_k01_fractions_holds : PySem.Challenge.rw_unitshares_k01_fractions.Holds := by
  w_on; o_law; k_head; (case hw => w_witness2)
  k_fill
  refine L2.walk_of (l := PySem.Challenge.rw_unitshares_k01_fractions) (n := 63) (k := 6) (x := "script") (CX := fun _ => L2.CX0) (sp := fun w => U.sp_law _) rfl (by decide) rfl ⟨rfl, by decide, by decide⟩ (fun w h Y => PySem.W.kIn_of Y) ?F (fun _ _ a ns hl _ hS => ⟨a, ns, rfl, hS, hl, fun _ => rfl⟩) (fun _ _ _ _ _ h => h)
  case F =>
    intro w mg fa h KX G hmg
    refine' U.all_mk KX G hmg ?a0 ?l0 ?c0 ?k0 ?a1 ?l1 ?c1 ?k1 ?a2 ?l2 ?c2 ?k2 ?a3 ?l3 ?c3 ?k3 ?a4 ?l4 ?c4 ?k4 ?a5 ?l5 ?c5 ?k5 ?a6 ?l6 ?c6 ?k6 ?a7 ?l7 ?c7 ?k7 ?a8 ?l8 ?c8 ?k8 ?a9 ?l9 ?c9 ?k9 ?a10 ?l10 ?c10 ?k10 ?a11 ?l11 ?c11 ?k11 ?a12 ?l12 ?c12 ?k12 ?a13 ?l13 ?c13 ?k13 ?a14 ?l14 ?c14 ?k14 ?a15 ?l15 ?c15 ?k15 ?a16 ?l16 ?c16 ?k16 ?z0 ?z1 ?z2 ?z3 ?z4 ?z5 ?z6 ?z7 ?z8 ?z9 ?z10 ?z11 ?z12 ?z13 ?z14 ?nShareError ?e0ShareError ?e1ShareError ?e2ShareError ?e3ShareError ?nNoFraction ?e0NoFraction ?e1NoFraction ?e2NoFraction ?e3NoFraction ?nNotBelow ?e0NotBelow ?e1NotBelow ?e2NotBelow ?e3NotBelow ?nTooGreat ?e0TooGreat ?e1TooGreat ?e2TooGreat ?e3TooGreat ?nBadText ?e0BadText ?e1BadText ?e2BadText ?e3BadText ?nNotRising ?e0NotRising ?e1NotRising ?e2NotRising ?e3NotRising ?hdShareError ?hdNoFraction ?hdNotBelow ?hdTooGreat ?hdBadText ?hdNotRising ?x0NoFraction ?x1NoFraction ?x2NoFraction ?x4NoFraction ?x5NoFraction ?x6NoFraction ?x7NoFraction ?sNoFraction ?y0NoFraction ?y1NoFraction ?y2NoFraction ?y3NoFraction ?y4NoFraction ?y5NoFraction ?x0NotBelow ?x1NotBelow ?x2NotBelow ?x4NotBelow ?x5NotBelow ?x6NotBelow ?x7NotBelow ?sNotBelow ?y0NotBelow ?y1NotBelow ?y2NotBelow ?y3NotBelow ?y4NotBelow ?y5NotBelow
    (case a0 => k_is)
    (case l0 => k_is)
    (case c0 => k_is)
    (case k0 => k_is)
    (case a1 => k_is)
    (case l1 => k_is)
    (case c1 => k_is)
    (case k1 => k_is)
    (case a2 => k_is)
    (case l2 => k_is)
    (case c2 => k_is)
    (case k2 => k_is)
    (case a3 => k_is)
    (case l3 => k_is)
    (case c3 => k_is)
    (case k3 => k_is)
    (case a4 => k_is)
    (case l4 => k_is)
    (case c4 => k_is)
    (case k4 => k_is)
    (case a5 => k_is)
    (case l5 => k_is)
    (case c5 => k_is)
    (case k5 => k_is)
    (case a6 => k_is)
    (case l6 => k_is)
    (case c6 => k_is)
    (case k6 => k_is)
    (case a7 => k_is)
    (case l7 => k_is)
    (case c7 => k_is)
    (case k7 => k_is)
    (case a8 => k_is)
    (case l8 => k_is)
    (case c8 => k_is)
    (case k8 => k_is)
    (case a9 => k_is)
    (case l9 => k_is)
    (case c9 => k_is)
    (case k9 => k_is)
    (case a10 => k_is)
    (case l10 => k_is)
    (case c10 => k_is)
    (case k10 => k_is)
    (case a11 => k_is)
    (case l11 => k_is)
    (case c11 => k_is)
    (case k11 => k_is)
    (case a12 => k_is)
    (case l12 => k_is)
    (case c12 => k_is)
    (case k12 => k_is)
    (case a13 => k_is)
    (case l13 => k_is)
    (case c13 => k_is)
    (case k13 => k_is)
    (case a14 => k_is)
    (case l14 => k_is)
    (case c14 => k_is)
    (case k14 => k_is)
    (case a15 => k_is)
    (case l15 => k_is)
    (case c15 => k_is)
    (case k15 => k_is)
    (case a16 => k_is)
    (case l16 => k_is)
    (case c16 => k_is)
    (case k16 => k_is)
    (case z0 => k_is)
    (case z1 => k_is)
    (case z2 => k_is)
    (case z3 => k_is)
    (case z4 => k_is)
    (case z5 => k_is)
    (case z6 => k_is)
    (case z7 => k_is)
    (case z8 => k_is)
    (case z9 => k_is)
    (case z10 => k_is)
    (case z11 => k_is)
    (case z12 => k_is)
    (case z13 => k_is)
    (case z14 => k_is)
    (case nShareError => k_is)
    (case e0ShareError => k_exc)
    (case e1ShareError => k_is)
    (case e2ShareError => k_is)
    (case e3ShareError => k_is)
    (case nNoFraction => k_is)
    (case e0NoFraction => k_exc)
    (case e1NoFraction => k_is)
    (case e2NoFraction => k_is)
    (case e3NoFraction => k_is)
    (case nNotBelow => k_is)
    (case e0NotBelow => k_exc)
    (case e1NotBelow => k_is)
    (case e2NotBelow => k_is)
    (case e3NotBelow => k_is)
    (case nTooGreat => k_is)
    (case e0TooGreat => k_exc)
    (case e1TooGreat => k_is)
    (case e2TooGreat => k_is)
    (case e3TooGreat => k_is)
    (case nBadText => k_is)
    (case e0BadText => k_exc)
    (case e1BadText => k_is)
    (case e2BadText => k_is)
    (case e3BadText => k_is)
    (case nNotRising => k_is)
    (case e0NotRising => k_exc)
    (case e1NotRising => k_is)
    (case e2NotRising => k_is)
    (case e3NotRising => k_is)
    (case hdShareError => k_is)
    (case hdNoFraction => k_is)
    (case hdNotBelow => k_is)
    (case hdTooGreat => k_is)
    (case hdBadText => k_is)
    (case hdNotRising => k_is)
    (case x0NoFraction => k_is)
    (case x1NoFraction => k_is)
    (case x2NoFraction => k_is)
    (case x4NoFraction => k_is)
    (case x5NoFraction => k_is)
    (case x6NoFraction => k_is)
    (case x7NoFraction => k_is)
    (case sNoFraction => k_is)
    (case y0NoFraction => k_is)
    (case y1NoFraction => k_is)
    (case y2NoFraction => k_is)
    (case y3NoFraction => k_is)
    (case y4NoFraction => k_is)
    (case y5NoFraction => k_is)
    (case x0NotBelow => k_is)
    (case x1NotBelow => k_is)
    (case x2NotBelow => k_is)
    (case x4NotBelow => k_is)
    (case x5NotBelow => k_is)
    (case x6NotBelow => k_is)
    (case x7NotBelow => k_is)
    (case sNotBelow => k_is)
    (case y0NotBelow => k_is)
    (case y1NotBelow => k_is)
    (case y2NotBelow => k_is)
    (case y3NotBelow => k_is)
    (case y4NotBelow => k_is)
    (case y5NotBelow => k_is)
