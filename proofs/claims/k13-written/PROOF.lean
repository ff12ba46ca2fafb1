import PyProof.Rows.All
import Wide.All
import OpenK.AllK
import Wide.FinOn
import HandS.ForMost
import HandS.ForExc
import HandS.More
import HandS.Wide
import HandS.WideBits
import HandS.IsInst
import HandS.SortInts
import HandS.SetFor
import HandS.Strs
import HandS.Zip

import PySem.Challenge.RW_unitshares_k13_written
set_option Elab.async false
set_option linter.all false
set_option maxRecDepth 100000
set_option maxHeartbeats 4000000
namespace U
open PySem PySem.Spec PyProof.Rows L2
def topS (i : Nat) : Stmt := PySem.Challenge.pw_unitshares_k13_written.main.body.getD i (.Pass ⟨0, 0, 0, 0⟩)
/-! ### how a def, a class, a built-in stand -/
/-- the module's name x holds the def st -/
def Stands (K : PySem.W.Frag) (mg : Str → Option Value) (x : Str) (st : Stmt) : Prop := ∃ f fd, Fun K x x st f fd ∧ mg x = some (.ref f)
/-- the def x keeps the promise sp -/
def Keeps (P : Program) (w : World) (K : PySem.W.Frag) (mg : Str → Option Value) (base : Heap) (k : Nat) (x : Str) (ps : List Str) (sp : Sp) : Prop :=
  ∃ f fd, FnOk P w K mg base (L2.CX P w) k f fd ps sp ∧ Binds K fd ps [] ∧ mg x = some (.ref f) ∧ PySem.W.keepIn K (.ref f) = true
/-- nothing leaves, so whatever leaves is as one likes -/
theorem toX {P : Program} {w : World} {K : PySem.W.Frag} {mg : Str → Option Value} {base : Heap} {k : Nat} {f : Addr} {fd : FuncData} {ps : List Str} {sp : Sp} (F : FnOk P w K mg base CX0 k f fd ps sp) : FnOk P w K mg base (L2.CX P w) k f fd ps sp :=
  ⟨F.len, fun A outer s H args us vs Q E hr e0 hb r h => codeAny_mono (F.run A outer s H args us vs Q E hr e0 hb r h) fun r s' q => by
    cases r with
    | error e => exact False.elim q
    | ok fl => cases fl <;> exact q⟩
structure Bi (mg : Str → Option Value) : Prop where
  len : mg "len" = none
  range : mg "range" = none
  min : mg "min" = none
  max : mg "max" = none
  sum : mg "sum" = none
  sorted : mg "sorted" = none
  set : mg "set" = none
  dict : mg "dict" = none
  list : mg "list" = none
  str : mg "str" = none
  int : mg "int" = none
  isinstance : mg "isinstance" = none
  bool : mg "bool" = none
  tuple : mg "tuple" = none
  ValueError : mg "ValueError" = none
abbrev veT : List Value := [.type "ValueError", .type "Exception", .type "BaseException", .type "object"]
/-! ### heaps -/
theorem same_new {H : Hp} {p : Addr} {o : HO} (h : H p = none) : Same H (upd H p o) := fun b x e => by
  rw [upd_ne (ne_of_none e h)]
  exact e
/-- an object that H does not know is written -/
theorem same_mut {H H' : Hp} {p : Addr} {o : HO} (s : Same H H') (h : H p = none) : Same H (upd H' p o) := fun b x e => by
  rw [upd_ne (ne_of_none e h)]
  exact s b x e
theorem same_tup {K : PySem.W.Frag} {H H' : Hp} {a : Addr} {xs : List V} (e : Same H H') (h : SqT K H a xs) : SqT K H' a xs := by
  rcases h with (h | ⟨o, h⟩) | h
  · exact .inl (.inl (e _ _ h))
  · exact .inl (.inr ⟨o, e _ _ h⟩)
  · exact .inr h
theorem ty_list {K : PySem.W.Frag} {H : Hp} {a : Addr} {xs : List V} (h : SqL K H a xs) : TyX K H (.ref a) (.type "list") := by
  rcases h with (h | ⟨o, h⟩) | ⟨o, _, _, h, c, _⟩
  · exact .base (.lst h)
  · exact .base (.frz h)
  · exact .kList h c
theorem ty_tup {K : PySem.W.Frag} {H : Hp} {a : Addr} {xs : List V} (h : SqT K H a xs) : TyX K H (.ref a) (.type "tuple") := by
  rcases h with (h | ⟨o, h⟩) | ⟨o, _, _, h, c, _⟩
  · exact .base (.tup h)
  · exact .fTuple h
  · exact .kTuple h c
theorem szl {n : Nat} (h : n ≤ 16000000) : n ≤ sizeLine := Nat.le_trans h (by decide)
theorem szl_lt {n : Nat} (h : n < 16000000) : n < sizeLine := Nat.lt_of_lt_of_le h (by decide)
theorem get_map {α β : Type} {f : α → β} {l : List α} {i : Nat} {x : α} (h : l[i]? = some x) : (l.map f)[i]? = some (f x) := by
  rw [List.getElem?_map, h] <;> rfl
theorem of_get_map {α β : Type} {f : α → β} {l : List α} {i : Nat} {y : β} (h : (l.map f)[i]? = some y) : ∃ x, l[i]? = some x ∧ y = f x := by
  rw [List.getElem?_map] at h
  cases e : l[i]? with
  | none => rw [e] at h; cases h
  | some x => rw [e] at h; exact ⟨x, rfl, (Option.some.inj h).symm⟩
theorem take_snoc {α : Type} {l : List α} {i : Nat} {x : α} (h : l[i]? = some x) : l.take (i + 1) = l.take i ++ [x] := by
  rw [List.take_add_one, h] <;> rfl
theorem lt_of_get {α : Type} {l : List α} {i : Nat} {x : α} (h : l[i]? = some x) : i < l.length := (List.getElem?_eq_some_iff.mp h).1
/-- 1, 2, .., n -/
def upto (n : Nat) : List Int := (List.range n).map fun (i : Nat) => 1 + (i : Int)
theorem upto_succ (n : Nat) : upto (n + 1) = upto n ++ [1 + (n : Int)] := by
  unfold upto
  rw [List.range_succ, List.map_append] <;> rfl
theorem upto_length (n : Nat) : (upto n).length = n := by
  unfold upto
  rw [List.length_map, List.length_range]
theorem mem_upto {n : Nat} {x : Int} : x ∈ upto n ↔ 1 ≤ x ∧ x ≤ n := by
  unfold upto
  rw [List.mem_map]
  constructor
  · rintro ⟨i, hi, rfl⟩
    have := List.mem_range.mp hi
    omega
  · rintro ⟨h1, h2⟩
    exact ⟨(x - 1).toNat, List.mem_range.mpr (by omega), by omega⟩
theorem cw_mul {i j : Int} {a b : Nat} (ha : i.natAbs < 2 ^ a) (hb : j.natAbs < 2 ^ b) (h0 : 0 < a := by decide) (h1 : 0 < b := by decide) (h : a + b ≤ 1000000 := by decide) : CMulW i j := wide_mul ha hb h0 h1 h
/-- // by a positive divisor, where it is told that C divides by itself -/
theorem op_fdivP {X : Cx} : OpR X (binaryOp .FloorDiv) (rI CDivP fun i j => .int (i / j)) := opI fun i j _ _ _ _ _ hc q => by
  have h1 : (0 : Int) < j := hc.1
  exact floordiv_int (by omega) (by rw [Int.fdiv_eq_ediv_of_nonneg i (by omega)]; exact q) (.inl hc.2)
theorem cdp_of {i j : Int} (h : CDivW i j) : CDivP i j := ⟨h.1, PyProof.noPylong_of_log2 h.2⟩
theorem cw_div {i j : Int} {b : Nat} (h : 0 < j) (hb : j.natAbs < 2 ^ b) (h0 : 0 < b := by decide) (h9 : b ≤ 9000 := by decide) : CDivP i j := cdp_of (wide_div h hb h0 h9)
theorem fil_yes {α : Type} {q : α → Prop} [DecidablePred q] {l : List α} {x : α} (h : q x) : (l ++ [x]).filter (fun k => decide (q k)) = l.filter (fun k => decide (q k)) ++ [x] := by
  rw [List.filter_append]
  congr 1
  simp [h]
theorem fil_no {α : Type} {q : α → Prop} [DecidablePred q] {l : List α} {x : α} (h : ¬ q x) : (l ++ [x]).filter (fun k => decide (q k)) = l.filter (fun k => decide (q k)) := by
  rw [List.filter_append]
  simp [h]
/-- what holds behind a statement, its ways joined -/
theorem cut {t R : TS} {D : Ends} {σ : L2.St} {H : Hp} (Pm : L2.St → Hp → Prop) (h1 : ∀ (R : TS) (D : Ends), (∀ σ' H', Pm σ' H' → R D σ' H') → tSeq t R D σ H) (h2 : ∀ σ' H', Pm σ' H' → R D σ' H') : tSeq t R D σ H := h1 R D h2
theorem snoc_ind {α : Type} (P : List α → Prop) (l : List α) (h0 : P []) (hs : ∀ l x, P l → P (l ++ [x])) : P l := by
  have : ∀ r : List α, P r.reverse := fun r => by
    induction r with
    | nil => exact h0
    | cons x r ih =>
      rw [List.reverse_cons]
      exact hs _ _ ih
  have := this l.reverse
  rwa [List.reverse_reverse] at this

/-! ### sizes, by bits -/
/-- x has at most n bits -/
def Sz (n : Nat) (x : Int) : Prop := x.natAbs < 2 ^ n
theorem Sz.mono {a b : Nat} {x : Int} (h : Sz a x) (l : a ≤ b := by decide) : Sz b x := Nat.lt_of_lt_of_le h (Nat.pow_le_pow_right (by decide) l)
theorem Sz.le {a : Nat} {x y : Int} (h : Sz a y) (h0 : 0 ≤ x) (l : x ≤ y) : Sz a x := Nat.lt_of_le_of_lt (by omega : x.natAbs ≤ y.natAbs) h
theorem Sz.mul {a b : Nat} {x y : Int} (h : Sz a x) (g : Sz b y) : Sz (a + b) (x * y) := by
  unfold Sz
  rw [Int.natAbs_mul, Nat.pow_add]
  exact Nat.mul_lt_mul'' h g
theorem Sz.add {a : Nat} {x y : Int} (h : Sz a x) (g : Sz a y) : Sz (a + 1) (x + y) := by
  have h : x.natAbs < 2 ^ a := h
  have g : y.natAbs < 2 ^ a := g
  show (x + y).natAbs < 2 ^ (a + 1)
  rw [Nat.pow_succ]
  omega
theorem Sz.sub {a : Nat} {x y : Int} (h : Sz a x) (g : Sz a y) : Sz (a + 1) (x - y) := by
  have h : x.natAbs < 2 ^ a := h
  have g : y.natAbs < 2 ^ a := g
  show (x - y).natAbs < 2 ^ (a + 1)
  rw [Nat.pow_succ]
  omega
theorem Sz.cm {a b : Nat} {i j : Int} (ha : Sz a i) (hb : Sz b j) (h0 : 0 < a := by decide) (h1 : 0 < b := by decide) (h : a + b ≤ 1000000 := by decide) : CMulW i j := wide_mul ha hb h0 h1 h
theorem Sz.cd {b : Nat} {i j : Int} (hb : Sz b j) (h : 0 < j) (h0 : 0 < b := by decide) (h9 : b ≤ 9000 := by decide) : CDivP i j := cw_div h hb h0 h9
theorem Sz.lit {a : Nat} {x : Int} (h : x.natAbs < 2 ^ a := by decide) : Sz a x := h
theorem Sz.one {a : Nat} (h : 0 < a := by decide) : Sz a 1 := Nat.one_lt_two_pow (by omega)
theorem Sz.zero {a : Nat} : Sz a 0 := Nat.pow_pos (by decide)
/-- a dividend not much greater than its divisor -/
theorem cdp_near {i j : Int} {k : Nat} (hj : 0 < j) (h : i.natAbs ≤ 2 ^ k * j.natAbs) (hk : k ≤ 3000 := by decide) : CDivP i j := by
  refine divp_ok hj ?_
  have b1 : j.natAbs < 2 ^ (j.natAbs.log2 + 1) := Nat.lt_log2_self
  have b2 : i.natAbs < 2 ^ (k + (j.natAbs.log2 + 1)) := by
    rw [Nat.pow_add]
    exact Nat.lt_of_le_of_lt h (Nat.mul_lt_mul_of_pos_left b1 (Nat.pow_pos (by decide)))
  have b3 := PyProof.Rows.intBits_le b2
  have b4 : Builtin.Int.intBits j = j.natAbs.log2 + 1 := by
    unfold Builtin.Int.intBits
    rw [if_neg (by simpa using (show j ≠ 0 by omega))]
  omega

/-! ### set(xs) of a list of ints -/
section
variable {P : Program} {w : World} {A : Around} {E : Value → Shared → Prop}
/-- a set that was just made -/
abbrev bare (w : World) : Obj := { cls := .type "set", dict := none, data := .set #[] 0 (.fresh 0 0 (!w.params.followText "set-order")) }
/-- what set.__init__ leaves of s, the set at a: it holds the ints, all of g is kept -/
def Filled (w : World) (s : Shared) (g : Heap) (a : Addr) (ns : List Int) (v : Value) (s' : Shared) : Prop :=
  v = .none ∧ ∃ h tk c, s' = { s with heap := h, toks := tk } ∧ SetR w h a (fun j => decide (j ∈ ns)) c ∧ c ≤ ns.length ∧ ∀ b o, g.get? b = some o → h.get? b = some o
/-- the filling, over the list's own iterator -/
theorem fill_list {g : Heap} {s : Shared} {l : Addr} {its : Array Value} {ns : List Int} (hs : s.heap = (g.push (bare w)).push { cls := .type "list_iterator", data := .fields #[.ref l, .int 0 0] }) (hh : A.handled = none)
    (hl : g.IsList l its) (hi : IntsAre its.toList ns) (hn : its.size = ns.length) (hb : ns.length + 1 < scanBound) {R : Result → Shared → Prop} (hr : ∀ s', Filled w s g g.objs.size ns .none s' → R (.ok (.ret .none)) s') :
    codeAny (model P w) A (.builtin "set.update.loop" ⟨[.ref g.objs.size, .ref (g.objs.size + 1)], []⟩) R s := by
  have lt : l < g.objs.size := by
    obtain ⟨o, e, _⟩ := hl
    exact Heap.lt_size e
  have z1 : (g.push (bare w)).objs.size = g.objs.size + 1 := Heap.size_push ..
  have a0 : (g.push (bare w)).get? g.objs.size = some (bare w) := Heap.get?_push_size _ rfl
  have apart : g.objs.size ∉ [g.objs.size + 1, l] := by
    intro m
    rcases List.mem_cons.mp m with e | m
    · exact Nat.ne_of_lt (Nat.lt_succ_self _) e
    · exact Nat.ne_of_gt lt (List.mem_singleton.mp m)
  have val : ∀ (i : Nat) (v : Value), its[i]? = some v → ∃ k t, ns[i]? = some k ∧ v = .int k t := fun i v e => by
    have hi' : i < ns.length := hn ▸ (Array.getElem?_eq_some_iff.mp e).1
    obtain ⟨t, q⟩ := IntsAre.int_at hi i v (by rw [Array.getElem?_toList]; exact e)
    have d : ns.getD i 0 = ns[i] := by rw [List.getD_eq_getElem?_getD, List.getElem?_eq_getElem hi'] <;> rfl
    exact ⟨ns[i], t, List.getElem?_eq_getElem hi', by rw [q, d]⟩
  have hh1 : A.in1.handled = none := hh
  have hl1 : (g.push (bare w)).IsList l its := hl.push _
  obtain ⟨hp, gg, d, tk, os⟩ := s
  have hs : hp = (g.push (bare w)).push { cls := .type "list_iterator", data := .fields #[.ref l, .int 0 0] } := hs
  subst hs
  have W := (Walks.list (prog := P) (w := w) hh1 (g.objs.size + 1) l (Nat.ne_of_lt (Nat.lt_succ_of_lt lt)) its).toS
  refine set_update_ints W g.objs.size apart ns hn hb val (its.size - 0) 0 _ (by omega) (Nat.zero_le _) ?_ ⟨0, Nat.le_refl 0, setR_new_at (Heap.get?_push_of_some _ a0)⟩ fun s' c m hc hR => ?_
  · exact ⟨⟨_, by rw [← z1]; exact Heap.get?_push_size _ rfl, rfl, rfl⟩, hl1.push _⟩
  · obtain ⟨h', g2, d2, tk2, os2⟩ := s'
    cases (m.gens : g2 = gg)
    cases (m.drawn : d2 = d)
    cases (m.os : os2 = os)
    refine hr _ ⟨rfl, h', tk2, c, rfl, hR, hn ▸ hc, fun b o e => ?_⟩
    have hb' := Heap.lt_size e
    refine m.heap b o (fun z => ?_) (Heap.get?_push_of_some _ (Heap.get?_push_of_some _ e))
    rcases List.mem_cons.mp z with z | z
    · exact Nat.ne_of_lt hb' z
    · exact Nat.ne_of_lt (Nat.lt_succ_of_lt hb') (List.mem_singleton.mp z)
set_option maxHeartbeats 3200000 in
theorem init_list {g : Heap} {s : Shared} {l : Addr} {its : Array Value} {ns : List Int} (hs : s.heap = g.push (bare w)) (hh : A.handled = none) (hl : g.IsList l its) (hi : IntsAre its.toList ns) (hn : its.size = ns.length) (hb : ns.length + 1 < scanBound) :
    codeAny (model P w) A (.call (.builtin "set.__init__") ⟨[.ref g.objs.size, .ref l], []⟩) (wants (Filled w s g g.objs.size ns) E) s := by
  have here : s.heap.get? g.objs.size = some (bare w) := by
    rw [hs]
    exact Heap.get?_push_size _ rfl
  have ty : s.TypeIs (.ref g.objs.size) "set" := ⟨_, here, rfl⟩
  have hl1 : s.heap.IsList l its := by
    rw [hs]
    exact hl.push _
  refine codeAny_call_builtin F.called_set.init.plain F.entry_set_init (check_set_init_1 ty ?_)
  obtain ⟨ol, gl, cl, nl, dl⟩ := id hl1
  obtain ⟨ocls, odict, odata, oslots⟩ := ol
  simp only at cl dl
  subst cl dl
  have n1 := F.sub_list_set
  have n2 := F.sub_list_frozenset
  have n3 : (Value.type "list" == Value.type "dict") = false := by decide
  obtain ⟨hp, gg, d, tk, os⟩ := s
  dsimp only at hs here gl hl1 ty
  subst hs
  unfold Builtin.«set.__init__» noKeywords Builtin.Frozenset.updateFrom
  generalize eI : pyIter = it
  wp_walk
  subst eI
  refine wpAny_pyIter_list hl1 ?_
  refine wpAny_bind (wpAny_runValue ?_)
  have z1 : (g.push (bare w)).objs.size = g.objs.size + 1 := Heap.size_push ..
  rw [z1]
  refine fill_list (g := g) rfl (by simpa using hh) hl hi hn hb fun s' f => ?_
  obtain ⟨_, h', tk', c, rfl, r⟩ := f
  show wpAny _ _ _ _ _ _
  refine wpAny_pure ?_
  show wpAny _ _ (ret Value.none) _ _ _
  exact wpAny_pure ⟨rfl, h', tk', c, rfl, r⟩
set_option maxHeartbeats 3200000 in
theorem set_of_list {s : Shared} {l : Addr} {its : Array Value} {ns : List Int} (hh : A.handled = none) (hl : s.heap.IsList l its) (hi : IntsAre its.toList ns) (hb : ns.length + 1 < scanBound) {Q : Value → Shared → Prop}
    (hq : ∀ (h : Heap) (tk c : Nat), SetR w h s.heap.objs.size (fun j => decide (j ∈ ns)) c → c ≤ ns.length → (∀ b o, s.heap.get? b = some o → h.get? b = some o) → Q (.ref s.heap.objs.size) { s with heap := h, toks := tk }) :
    wpAny (model P w) A (call (.type "set") [.ref l]) Q E s := by
  have hn : its.size = ns.length := by
    have q := IntsAre.length hi
    rwa [Array.length_toList] at q
  obtain ⟨c, tl, hmro⟩ := F.called_set.mro
  have f1 := F.called_set.made
  have f2 := F.called_set.sub
  have f3 := F.called_set.notType
  have f4 := F.called_set.canCreate
  have f5 := F.typeCall_set_1 (.ref l)
  refine wpAny_call (codeAny_of_tree ?_)
  show wpAny _ _ (callAny (.type "set") _) _ _ _
  refine wpAny_pure ⟨Code.quiet_builtin _ (by decide +kernel), codeAny_builtin F.entry_type_call ?_⟩
  rw [Around.under_plain (weight_type_call_type "set" [.ref l] []) rfl]
  repeat (any_goals (first | assumption | wp_step))
  refine codeAny_mono (code_set_led1 (w := w) (.ref l) (E := E) (Q₁ := fun u s₁ => u = .ref s.heap.objs.size ∧ s₁ = { s with heap := s.heap.push (bare w) }) ⟨rfl, rfl⟩) fun r s₁ hr => ?_
  cases r with
  | error e => exact hr
  | ok fl =>
    cases fl with
    | ret u =>
      obtain ⟨rfl, rfl⟩ := hr
      have here : (s.heap.push (bare w)).get? s.heap.objs.size = some (bare w) := Heap.get?_push_size _ rfl
      have ty : Shared.TypeIs { s with heap := s.heap.push (bare w) } (.ref s.heap.objs.size) "set" := ⟨_, here, rfl⟩
      have g1 := F.called_set.init.lookup
      have g2 := F.called_set.init.bind (.ref s.heap.objs.size)
      repeat (any_goals (first | assumption | wp_step))
      refine codeAny_mono (init_list (s := { s with heap := s.heap.push (bare w) }) rfl hh hl hi hn hb (E := E)) fun r₂ s₂ h₂ => ?_
      cases r₂ with
      | error e => exact h₂
      | ok f2 =>
        cases f2 with
        | ret v =>
          obtain ⟨rfl, h', tk', c', rfl, hR, hc, hk⟩ := h₂
          repeat (any_goals (first | assumption | wp_step))
          exact hq _ _ _ hR hc hk
        | next => exact h₂.elim
        | brk => exact h₂.elim
        | cont => exact h₂.elim
    | next => exact hr.elim
    | brk => exact hr.elim
    | cont => exact hr.elim
end
/-- set(xs) -/
def rSetL (K : PySem.W.Frag) (w : World) : List V → Hp → VK → Prop := fun vs H Q => ∃ (l : Addr) (ns : List Int), vs = [V.ref l] ∧ SqL K H l (ns.map V.int) ∧ ns.length < 4000 ∧
  ∀ (p : Addr) (c : Nat), H p = none → c ≤ ns.length → Q (.ref p) (upd H p (SetO w p (fun j => decide (j ∈ ns)) c))
theorem cr_setL {X : Cx} (hc : X.calm = true) : CallR X (.type "set") (rSetL X.K X.w) := by
  intro pins s σ H vs us Q I r h
  obtain ⟨l, ns, rfl, hS, hn, q⟩ := h
  obtain ⟨u, rfl, ru⟩ := vals1 r
  cases ru
  obtain ⟨its, rv, pl, hz⟩ := I.list hS
  refine set_of_list (I.ok.hd hc) pl.isList (ns := ns) (by simpa using RZ.intsAre_vals rv) (by unfold scanBound; omega) fun h tk c hR hc' hk => ?_
  exact ⟨.ref _, _, I.laid (t' := tk) (a := s.heap.objs.size) hk (Nat.le_refl _) (setO_new hR), rfl, q _ c (I.hok.fresh (Nat.le_refl _)) hc'⟩

/-! ### pairs of ints, compared -/
theorem dp_pair {K : PySem.W.Frag} {H : Hp} {a : Addr} {t u : Int} (h : SqT K H a [.int t, .int u]) : Dp K H (.ref a) (.tuple [.int t, .int u]) := .tup h (.cons (.int t) (.cons (.int u) .nil))
theorem eqv_pair (t u t' u' : Int) : PyData.eqv (.tuple [.int t, .int u]) (.tuple [.int t', .int u']) = decide (t = t' ∧ u = u') := by
  simp [PyData.eqv, PyData.eqvAll, Bool.decide_and]
  rfl

--: math = setlist
--: math = pairs
/-! ### lists that rise -/
def Ris (xs : List Int) : Prop := xs.Pairwise (· < ·)
instance (xs : List Int) : Decidable (Ris xs) := inferInstanceAs (Decidable (xs.Pairwise _))
theorem ris_uniq : ∀ {a b : List Int}, Ris a → Ris b → (∀ k, k ∈ a ↔ k ∈ b) → a = b
  | [], [], _, _, _ => rfl
  | [], y :: b, _, _, h => absurd ((h y).mpr List.mem_cons_self) (by simp)
  | x :: a, [], _, _, h => absurd ((h x).mp List.mem_cons_self) (by simp)
  | x :: a, y :: b, ha, hb, h => by
    obtain ⟨a1, a2⟩ := List.pairwise_cons.mp ha
    obtain ⟨b1, b2⟩ := List.pairwise_cons.mp hb
    have e : x = y := by
      rcases List.mem_cons.mp ((h x).mp List.mem_cons_self) with e | m
      · exact e
      · rcases List.mem_cons.mp ((h y).mpr List.mem_cons_self) with e | m'
        · exact e.symm
        · have := b1 x m
          have := a1 y m'
          omega
    subst e
    refine congrArg (x :: ·) (ris_uniq a2 b2 fun k => ⟨fun m => ?_, fun m => ?_⟩)
    · rcases List.mem_cons.mp ((h k).mp (List.mem_cons_of_mem _ m)) with e | m'
      · have := a1 k m
        omega
      · exact m'
    · rcases List.mem_cons.mp ((h k).mpr (List.mem_cons_of_mem _ m)) with e | m'
      · have := b1 k m
        omega
      · exact m'
theorem ris_adj {xs : List Int} (h : ∀ (j : Nat) (x y : Int), xs[j]? = some x → xs[j + 1]? = some y → x < y) : Ris xs := by
  refine List.pairwise_iff_getElem.mpr fun i j hi hj hij => ?_
  obtain ⟨d, rfl⟩ : ∃ d, j = i + 1 + d := ⟨j - (i + 1), by omega⟩
  induction d with
  | zero => exact h i _ _ (List.getElem?_eq_getElem hi) (List.getElem?_eq_getElem hj)
  | succ d ih =>
    have h1 := ih (by omega) (by omega)
    have h2 := h (i + 1 + d) _ _ (List.getElem?_eq_getElem (by omega)) (List.getElem?_eq_getElem hj)
    omega
theorem ris_at {xs : List Int} (h : Ris xs) {j : Nat} {x y : Int} (e1 : xs[j]? = some x) (e2 : xs[j + 1]? = some y) : x < y := by
  obtain ⟨h1, rfl⟩ := List.getElem?_eq_some_iff.mp e1
  obtain ⟨h2, rfl⟩ := List.getElem?_eq_some_iff.mp e2
  exact List.pairwise_iff_getElem.mp h j (j + 1) h1 h2 (by omega)
/-! ### data of ints, compared -/
theorem dp_ints {K : PySem.W.Frag} {H : Hp} {a : Addr} {xs : List Int} (h : SqL K H a (xs.map V.int)) : Dp K H (.ref a) (.list (xs.map PyData.int)) := by
  refine .lst h ?_
  clear h
  induction xs with
  | nil => exact .nil
  | cons x xs ih => exact .cons (.int x) ih
theorem eqvAll_ints : ∀ xs ys : List Int, PyData.eqvAll (xs.map PyData.int) (ys.map PyData.int) = decide (xs = ys)
  | [], [] => by simp [PyData.eqvAll]
  | [], y :: ys => by simp [PyData.eqvAll]
  | x :: xs, [] => by simp [PyData.eqvAll]
  | x :: xs, y :: ys => by
    have ih := eqvAll_ints xs ys
    simp only [List.map_cons, PyData.eqvAll, PyData.eqv, ih]
    rw [Bool.eq_iff_iff]
    simp
theorem eqv_ints (xs ys : List Int) : PyData.eqv (.list (xs.map PyData.int)) (.list (ys.map PyData.int)) = decide (xs = ys) := by
  rw [← eqvAll_ints]
  simp only [PyData.eqv]
theorem canLay_ints : ∀ xs : List Int, PyData.canLayAll0 (xs.map PyData.int) = true
  | [] => rfl
  | x :: xs => by
    simp only [List.map_cons, PyData.canLayAll0, PyData.canLay0, canLay_ints xs]
    rfl
theorem depth_ints : ∀ xs : List Int, PyData.depthAll (xs.map PyData.int) = 0
  | [] => rfl
  | x :: xs => by
    simp only [List.map_cons, PyData.depthAll, PyData.depth, depth_ints xs]
    rfl
theorem shaped_ints (xs : List Int) : SeqAt.shaped (.list (xs.map PyData.int)) = true := by
  unfold SeqAt.shaped
  simp only [PyData.canLay0, PyData.depth, canLay_ints, depth_ints]
  rfl

--: math = sz
--: math = ris
/-! ### texts by their codes -/
open TL
theorem str_eq {x y : Str} : V.str x = V.str y ↔ tl x = tl y := ⟨fun h => by cases h; rfl, fun h => by rw [ext_tl h]⟩
theorem cut_from (w : Str) : tl (cutS w (some 2) none) = (tl w).drop 2 := by
  have e : HT.sIx w.length 0 (some 2) = min 2 w.length := HT.sIx_nat _ _ 2
  show (List.take _ ((tl w).drop (HT.sIx w.length 0 (some 2)))) = _
  rw [e, len_tl]
  show List.take ((tl w).length - min 2 (tl w).length) ((tl w).drop (min 2 (tl w).length)) = _
  by_cases c : 2 ≤ (tl w).length
  · rw [Nat.min_eq_left c, List.take_of_length_le]
    rw [List.length_drop]
    exact Nat.le_refl _
  · rw [Nat.min_eq_right (by omega), Nat.sub_self, List.take_zero, List.drop_eq_nil_of_le (by omega)]
theorem cut_to (w : Str) : tl (cutS w none (some 2)) = (tl w).take 2 := by
  have e : HT.sIx w.length w.length (some 2) = min 2 w.length := HT.sIx_nat _ _ 2
  show (List.take (HT.sIx w.length w.length (some 2) - 0) ((tl w).drop 0)) = _
  rw [e, len_tl, List.drop_zero, Nat.sub_zero]
  by_cases c : 2 ≤ (tl w).length
  · rw [Nat.min_eq_left c]
  · rw [Nat.min_eq_right (by omega), List.take_of_length_le (Nat.le_refl _), List.take_of_length_le (by omega)]
/-- over the signs of a text -/
theorem for_str {x : Str} {g : TG} {tb : TS} {D : Ends} {σ : L2.St} {H : Hp} (Pv : Nat → L2.St → Hp → Prop) (h0 : Pv 0 σ H)
    (hs : ∀ i c σ H, (tl x)[i]? = some c → Pv i σ H → g (.str ⟨#[c]⟩) σ H fun σ2 H2 => tb { D with nx := Pv (i + 1), ct := Pv (i + 1), bk := D.nx } σ2 H2) (hd : ∀ σ H, Pv (tl x).length σ H → D.nx σ H) :
    ∃ W : Nat → Nat → L2.St → Hp → Prop, (∃ m, W 0 m σ H) ∧ ∀ i m σ H, W i m σ H →
      ((Its x).stop i H ∧ D.nx σ H) ∨ ((Its x).go i H ∧ ∃ N : L2.St → Hp → Prop, (∀ σ' H', N σ' H' → ∃ m', m' < m ∧ W (i + 1) m' σ' H') ∧ ∀ v H', (Its x).yld i H v H' → g v σ H' fun σ2 H2 => tb { D with nx := N, ct := N, bk := D.nx } σ2 H2) := by
  have len : (tl x).length = x.cps.size := by simp [tl]
  refine ⟨fun i m σ H => m = (tl x).length - i ∧ i ≤ (tl x).length ∧ Pv i σ H, ⟨_, rfl, Nat.zero_le _, h0⟩, ?_⟩
  rintro i m σ H ⟨rfl, hi, p⟩
  by_cases hlt : i < (tl x).length
  · refine .inr ⟨by show i < x.cps.size; omega, Pv (i + 1), fun σ' H' p' => ⟨_, by omega, rfl, hlt, p'⟩, ?_⟩
    rintro v H' ⟨rfl, c, ec, rfl⟩
    exact hs i c σ _ (by rw [← ec]; simp [tl]) p
  · obtain rfl : i = (tl x).length := by omega
    exact .inl ⟨by show x.cps.size ≤ (tl x).length; omega, hd σ H p⟩
/-! ### a share, written -/
/-- the share that a word writes, by its codes -/
def shareF (l : List Nat) : Option Nat :=
  if l.take 2 = [49, 47] ∧ l.drop 2 ≠ [] ∧ (l.drop 2).length ≤ 400 ∧ (l.drop 2).head? ≠ some 48 ∧ ∀ c ∈ l.drop 2, 48 ≤ c ∧ c ≤ 57 then some (NumText.digitsVal (l.drop 2)) else none
theorem shareF_no {l : List Nat} (h : ¬ (l.take 2 = [49, 47] ∧ l.drop 2 ≠ [] ∧ (l.drop 2).length ≤ 400 ∧ (l.drop 2).head? ≠ some 48 ∧ ∀ c ∈ l.drop 2, 48 ≤ c ∧ c ≤ 57)) : shareF l = none := if_neg h
theorem shareF_yes {l : List Nat} (h : l.take 2 = [49, 47] ∧ l.drop 2 ≠ [] ∧ (l.drop 2).length ≤ 400 ∧ (l.drop 2).head? ≠ some 48 ∧ ∀ c ∈ l.drop 2, 48 ≤ c ∧ c ≤ 57) : shareF l = some (NumText.digitsVal (l.drop 2)) := if_pos h
/-- 1/ and a number -/
def wordF (x : Int) : Str := ("1/" : Str) ++ Str.ofString (toString x)
theorem tl_word {n : Nat} : tl (wordF (n : Int)) = 49 :: 47 :: numL n := by
  unfold wordF
  rw [tl_append, tl_num] <;> rfl
theorem numL_head : ∀ n : Nat, 1 ≤ n → (numL n).head? ≠ some 48 := fun n => by
  induction n using Nat.strongRecOn with
  | ind n ih =>
    intro h
    by_cases c : n < 10
    · rw [numL_lt c]
      intro z
      have : 48 + n = 48 := Option.some.inj z
      omega
    · have i := ih (n / 10) (by omega) (by omega)
      rw [numL_step (by omega)]
      have ne := numL_ne (n / 10)
      revert i ne
      generalize numL (n / 10) = l
      intro i ne
      cases l with
      | nil => exact absurd rfl ne
      | cons a r => exact i
theorem share_word {n : Nat} (h : 1 ≤ n) (hl : (numL n).length ≤ 400) : shareF (tl (wordF (n : Int))) = some n := by
  rw [tl_word]
  have e := numL_val n
  have d : List.drop 2 (49 :: 47 :: numL n) = numL n := rfl
  have y := shareF_yes (l := 49 :: 47 :: numL n) ⟨rfl, by rw [d]; exact numL_ne n, by rw [d]; exact hl, by rw [d]; exact numL_head n h, fun c hc => numL_digits n c (by rw [d] at hc; exact hc)⟩
  rw [y, d, e]
theorem word_len {n : Nat} (hl : (numL n).length ≤ 400) : (wordF (n : Int)).length ≤ 402 := by
  rw [len_tl, tl_word, List.length_cons, List.length_cons]
  omega
theorem word_free {n s : Nat} (h : s ≠ 49) (h2 : s < 47) : s ∉ tl (wordF (n : Int)) := by
  rw [tl_word]
  intro m
  rcases List.mem_cons.mp m with z | m
  · exact h z
  · rcases List.mem_cons.mp m with z | m
    · omega
    · exact numL_free (.inl (by omega)) m
/-! ### some shares, written -/
def gap : Str := " + "
theorem gap_tl : tl gap = [32, 43, 32] := by decide +kernel
def shownF (xs : List Int) : Str := if xs = [] then "0" else Txt.join gap (xs.map wordF)
theorem joinL_snoc (S : List Nat) : ∀ (ps : List (List Nat)) (p : List Nat), ps ≠ [] → joinL S (ps ++ [p]) = joinL S ps ++ (S ++ p)
  | [], _, h => absurd rfl h
  | [a], p, _ => by
    show a ++ (S ++ p) = a ++ (S ++ p)
    rfl
  | a :: b :: r, p, _ => by
    have ih := joinL_snoc S (b :: r) p (by simp)
    show a ++ (S ++ joinL S (b :: r ++ [p])) = a ++ (S ++ joinL S (b :: r)) ++ (S ++ p)
    rw [ih, List.append_assoc, List.append_assoc]
theorem join_tl (y : Str) (ps : List Str) : tl (Txt.join y ps) = joinL (tl y) (ps.map tl) := by rw [join_eq, tl_join]
theorem join_snoc {ps : List Str} (h : ps ≠ []) (p : Str) : Txt.join gap (ps ++ [p]) = Txt.join gap ps ++ gap ++ p := by
  refine ext_tl ?_
  rw [join_tl, List.map_append, List.map_singleton, joinL_snoc _ _ _ (by simpa using h), tl_append, tl_append, join_tl, List.append_assoc]
theorem join_one (p : Str) : Txt.join gap [p] = p := ext_tl (by rw [join_tl] <;> rfl)
/-- shares that one may write: at least one, of at most 400 figures -/
def Wr (xs : List Int) : Prop := ∀ x ∈ xs, ∃ n : Nat, x = n ∧ 1 ≤ n ∧ (numL n).length ≤ 400
theorem split_shown {xs : List Int} (h : Wr xs) (ne : xs ≠ []) : Txt.split (Txt.join gap (xs.map wordF)) gap = xs.map wordF :=
  split_join gap_tl (by decide +kernel) (by simpa using ne) fun p hp => by
    obtain ⟨x, hx, rfl⟩ := List.mem_map.mp hp
    obtain ⟨n, rfl, _, _⟩ := h x hx
    exact word_free (by decide) (by decide)
/-- the words of a text, read -/
def wordsF (t : Str) : List (Option Nat) := (Txt.split t gap).map fun w => shareF (tl w)
theorem words_shown {xs : List Int} (h : Wr xs) (ne : xs ≠ []) : wordsF (Txt.join gap (xs.map wordF)) = xs.map fun x => some x.toNat := by
  unfold wordsF
  rw [split_shown h ne, List.map_map]
  refine List.map_congr_left fun x hx => ?_
  obtain ⟨n, rfl, n1, nl⟩ := h x hx
  exact share_word n1 nl
theorem shown_not0 {xs : List Int} (h : Wr xs) (ne : xs ≠ []) : tl (Txt.join gap (xs.map wordF)) ≠ [48] := by
  obtain ⟨x, r, rfl⟩ := List.exists_cons_of_ne_nil ne
  obtain ⟨n, rfl, _, _⟩ := h x List.mem_cons_self
  rw [join_tl, List.map_cons, List.map_cons, tl_word]
  intro z
  cases r with
  | nil => exact absurd (congrArg List.head? z) (by show ¬ (some 49 = some 48); decide)
  | cons y r => exact absurd (congrArg List.head? z) (by show ¬ (some 49 = some 48); decide)
theorem shown_len {xs : List Int} (h : Wr xs) : (Txt.join gap (xs.map wordF)).length ≤ 405 * xs.length := by
  refine snoc_ind (fun xs => Wr xs → (Txt.join gap (xs.map wordF)).length ≤ 405 * xs.length) xs (fun _ => Nat.zero_le _) (fun l x ih h => ?_) h
  have w : (wordF x).length ≤ 402 := by
    obtain ⟨n, rfl, _, nl⟩ := h x (List.mem_append_right _ List.mem_cons_self)
    exact word_len nl
  have i := ih fun y hy => h y (List.mem_append_left _ hy)
  rw [List.map_append, List.map_singleton, List.length_append, List.length_singleton]
  by_cases ne : l = []
  · subst ne
    rw [List.map_nil, List.nil_append, join_one]
    omega
  · rw [join_snoc (by simpa using ne), Str.length_append, Str.length_append]
    have : gap.length = 3 := by decide +kernel
    omega
theorem join_sum {xs : List Int} (h : Wr xs) : ((xs.map wordF).map (·.length)).sum ≤ 402 * xs.length := by
  refine snoc_ind (fun xs => Wr xs → ((xs.map wordF).map (·.length)).sum ≤ 402 * xs.length) xs (fun _ => Nat.zero_le _) (fun l x ih h => ?_) h
  have w : (wordF x).length ≤ 402 := by
    obtain ⟨n, rfl, _, nl⟩ := h x (List.mem_append_right _ List.mem_cons_self)
    exact word_len nl
  have i := ih fun y hy => h y (List.mem_append_left _ hy)
  rw [List.map_append, List.map_append, List.sum_append, List.length_append, List.length_singleton]
  show _ + ((wordF x).length + 0) ≤ _
  omega
theorem wr_log {xs : List Int} (h : Wr xs) {x : Int} (hx : x ∈ xs) : x.natAbs.log2 < 1920 := by
  obtain ⟨n, rfl, n1, nl⟩ := h x hx
  have l : (Nat.repr n).length ≤ 400 := by
    have : (numL n).length = (Nat.repr n).length := by
      unfold numL Nat.repr
      rw [List.length_map, String.length_ofList]
    omega
  have b := (Nat.length_repr_le_iff (n := n) (k := 400) (by decide)).mp l
  have p : (10 ^ 400 : Nat) < 2 ^ 1920 := by decide +kernel
  show n.log2 < 1920
  exact (Nat.log2_lt (by omega)).mpr (Nat.lt_trans b p)
theorem lit_1 : tl ("1/" : Str) = [49, 47] := by decide +kernel
theorem lit_0 : tl ("0" : Str) = [48] := by decide +kernel
theorem lit_e : tl ("" : Str) = [] := by decide +kernel
theorem figs {c : Nat} : c ∈ tl ("0123456789" : Str) ↔ 48 ≤ c ∧ c ≤ 57 := by
  have e : tl ("0123456789" : Str) = [48, 49, 50, 51, 52, 53, 54, 55, 56, 57] := by decide +kernel
  rw [e]
  simp only [List.mem_cons, List.not_mem_nil, or_false]
  omega
theorem sign_eq {c d : Nat} : V.str ⟨#[c]⟩ = V.str ⟨#[d]⟩ ↔ c = d := ⟨fun h => by cases h; rfl, fun h => by rw [h]⟩
theorem shown_cons {xs : List Int} (h : xs ≠ []) : shownF xs = Txt.join gap (xs.map wordF) := if_neg h
theorem shown_nil : shownF [] = "0" := rfl
theorem split_len {xs : List Int} (h : Wr xs) (ne : xs ≠ []) : ∀ w ∈ Txt.split (Txt.join gap (xs.map wordF)) gap, w.length ≤ 402 := fun w hw => by
  rw [split_shown h ne] at hw
  obtain ⟨x, hx, rfl⟩ := List.mem_map.mp hw
  obtain ⟨n, rfl, _, nl⟩ := h x hx
  exact word_len nl

--: math = sz
/-! ### a text taken so many times; great written numbers -/
theorem op_rep_str {X : Cx} : OpR X (binaryOp .Mult) (fun x y H Q => ∃ (z : Str) (n : Int), x = .str z ∧ y = .int n ∧ MulOk z n ∧ Q (.str (Txt.mul z n)) H) := by
  intro pins s σ H x y v u Q I rx ry h
  obtain ⟨z, n, rfl, rfl, ok, q⟩ := h
  obtain ⟨t, rfl⟩ := rx
  obtain ⟨t', rfl⟩ := ry
  exact SB.mul ok fun t1 k => ⟨.str _, H, I.tok _, ⟨_, rfl⟩, q⟩
/-- 1 and so many noughts behind it -/
structure Noughts (k : Nat) : Prop where
  ok : MulOk "0" (k : Int)
  len : ("1" : Str).length + (Txt.mul "0" (k : Int)).length ≤ 640
  num : PySem.intText? ("1" ++ Txt.mul "0" (k : Int)) = some ((10 ^ k : Nat) : Int)
  len2 : (("1" : Str) ++ Txt.mul "0" (k : Int)).length ≤ 640

--: math = strmul
theorem noughts100 : Noughts 100 := ⟨by unfold MulOk; decide +kernel, by decide +kernel, by decide +kernel, by decide +kernel⟩

structure ErrA where
  ShareError : Addr
  NoFraction : Addr
  NotBelow : Addr
  TooGreat : Addr
  BadText : Addr
  NotRising : Addr
structure ErrC (K : PySem.W.Frag) (mg : Str → Option Value) (C S : Addr) (x : Str) : Prop where
  g : mg x = some (.ref C)
  x : PySem.W.excIn K C veT "ValueError.__new__" = true
  k : PySem.W.keepIn K (.ref C) = true
  b : PySem.W.subIn K (.ref C) (.type "BaseException") = some true
  t : PySem.W.typeIn K (.ref C) = some (.type "type")
structure ErrOk (K : PySem.W.Frag) (mg : Str → Option Value) (e : ErrA) : Prop where
  ShareError : ErrC K mg e.ShareError e.ShareError "ShareError"
  BadText : ErrC K mg e.BadText e.ShareError "BadText"
  NotRising : ErrC K mg e.NotRising e.ShareError "NotRising"

section
variable {P : Program} {w : World} {K : PySem.W.Frag} {mg : Str → Option Value} {base : Heap} {e : ErrA}

abbrev s_shown : Stmt := topS 6
abbrev N_shown : List Str := ["shares", "share"]
theorem sc_shown : FnScope N_shown ["shares"] (defScope s_shown) := ⟨rfl, rfl, rfl, by decide +kernel, rfl, by decide +kernel, by decide +kernel⟩
open TL
def sp_shown (K : PySem.W.Frag) (_ : ErrA) : Sp := fun vs H Q _ => ∃ (a : Addr) (xs : List Int), vs = [.ref a] ∧ SqL K H a (xs.map V.int) ∧ xs.length ≤ 1000 ∧ Wr xs ∧ ∀ H', Same H H' → Q (.str (shownF xs)) H'
theorem ok_shown (D : Stands K mg "shown" s_shown) (B : Bi mg) (Er : ErrOk K mg e) : Keeps P w K mg base 1 "shown" ["shares"] (sp_shown K e) := by
  obtain ⟨f, fd, F, mF⟩ := D
  refine ⟨f, fd, ?_, F.binds (ps := ["shares"]) (fun _ _ _ _ _ _ us hl => match us, hl with | [_], _ => rfl), mF, F.kp⟩
  refine toX (F.ok sc_shown (fun vs H Q E h => ?_) (fun cdv A outer s H vs Q E hr h => ?_))
  · obtain ⟨a, xs, rfl, hS, hl, wr, q⟩ := h
    rfl
  · obtain ⟨a, xs, rfl, hS, hl, wr, q⟩ := h
    refine ⟨_, (pss_cons (ps_if (pt_cmpR op_eq (pe_callB call_len_seq (by rfl) B.len (by decide +kernel) (pa_cons (pv 0) pa_nil)) pe_int (nomark _)) (pss_one (ps_ret pe_str)) pss_nil)
      (pss_one (ps_ret (pe_join pe_str (pe_lc (own := [("share", 1)]) (g := gName 1) (tt := tYes) (by rfl) sc_shown.nd (pi_list (pv 0)) (blkOk_by (N := N_shown) (sc := defScope s_shown) (by decide +kernel)) (fun _ _ _ _ _ => pg_name (i := 1) sc_shown.nd rfl (Or.inl rfl)) (fun _ _ _ _ _ => pts_nil) (fun _ _ _ _ _ => (pe_op op_add_str pe_str (pe_callTy call_str_int (by rfl) B.str (by decide +kernel) (pa_cons (pv 1) pa_nil))))))))), ?_⟩
    refine ⟨_, rfl, a, _, rfl, .inl hS, rfl, _, rfl, ite2 (fun c => ?_) (fun c => ?_)⟩
    · have c := V.int.inj (of_decide_eq_true c)
      rw [List.length_map] at c
      obtain rfl : xs = [] := List.length_eq_zero_iff.mp (by omega)
      exact q H (Same.refl _)
    · have ne : xs ≠ [] := fun z => c (by rw [z]; exact decide_eq_true rfl)
      rw [shown_cons ne] at q
      refine ⟨⟨_, rfl⟩, _, rfl, a, rfl, ⟨_, hS⟩, fun D nD => ?_⟩
      refine lc_list (K := K) (a := a) (xs := xs.map V.int) (fun i H' => Same H H' ∧ H' D = some (.lst (((xs.take i).map wordF).map V.str))) ⟨same_new nD, upd_same⟩ (fun i H' _ h => h.1.seq hS) ?_ ?_
      · rintro i y H1 hy ⟨s1, e1⟩
        obtain ⟨x, ex, rfl⟩ := of_get_map hy
        have hx := List.mem_of_getElem? ex
        have len : (wordF x).length ≤ 402 := by
          obtain ⟨n, rfl, _, nl⟩ := wr x hx
          exact word_len nl
        unfold wordF at len
        rw [Str.length_append] at len
        refine ⟨rfl, _, rfl, x, rfl, wr_log wr hx, _, _, rfl, rfl, Nat.le_trans len (szl (by decide)), _, e1, ?_, same_mut s1 nD, ?_⟩
        · rw [List.length_map, List.length_map, List.length_take]
          exact szl_lt (by omega)
        · rw [upd_same, take_snoc ex, List.map_append, List.map_append] <;> rfl
      · rintro H1 ⟨s1, e1⟩
        rw [List.length_map, List.take_length] at e1
        have sm := join_sum wr
        refine ⟨_, D, xs.map wordF, rfl, rfl, .inl (SqL.of e1), ?_, q H1 s1⟩
        rw [List.length_map]
        show _ + xs.length * 3 ≤ _
        omega

abbrev s_share_of : Stmt := topS 7
abbrev N_share_of : List Str := ["word", "figures", "sign"]
theorem sc_share_of : FnScope N_share_of ["word"] (defScope s_share_of) := ⟨rfl, rfl, rfl, by decide +kernel, rfl, by decide +kernel, by decide +kernel⟩
open TL
def sp_share_of (K : PySem.W.Frag) (e : ErrA) : Sp := fun vs H Q E => ∃ w : Str, vs = [.str w] ∧ w.length ≤ 1000000 ∧ (shareF (tl w) = none → E (.ref e.BadText) none H) ∧ (∀ m : Nat, shareF (tl w) = some m → Q (.int m) H)
theorem ok_share_of (D : Stands K mg "share_of" s_share_of) (B : Bi mg) (Er : ErrOk K mg e)
    (h_FIGURES : ∃ t, mg "FIGURES" = some (.str "0123456789" t)) : Keeps P w K mg base 1 "share_of" ["word"] (sp_share_of K e) := by
  obtain ⟨f, fd, F, mF⟩ := D
  obtain ⟨t_FIGURES, h_FIGURES⟩ := h_FIGURES
  have h_BadText := Er.BadText
  refine ⟨f, fd, ?_, F.binds (ps := ["word"]) (fun _ _ _ _ _ _ us hl => match us, hl with | [_], _ => rfl), mF, F.kp⟩
  refine F.okX sc_share_of (fun vs H Q E h => ?_) (fun cdv A outer s H vs Q E hr h => ?_)
  · obtain ⟨w, rfl, hl, kE, kQ⟩ := h
    rfl
  · obtain ⟨w, rfl, hl, kE, kQ⟩ := h
    refine ⟨_, (pss_cons (ps_set (i := 1) sc_share_of.nd rfl (Or.inl rfl) (pe_slice sl_str (pv 0) (po_some pe_int) po_none))
      (pss_cons (ps_if (PW.pt (pw_or (pt_cmpR op_ne (pe_slice sl_str (pv 0) po_none (po_some pe_int)) pe_str (nomark _)) (pw_or (pt_cmpR op_eq (pv 1) pe_str (nomark _)) (pw_or (pt_cmpR op_gt (pe_callB call_len_str (by rfl) B.len (by decide +kernel) (pa_cons (pv 1) pa_nil)) pe_int (nomark _)) (pw_or1 (pt_cmpR op_eq (pe_ix ix_str (pv 1) pe_int (fun _ _ => rfl)) pe_str (nomark _))))))) (pss_one (ps_raise rfl (takes_of rfl rfl rfl rfl) (pmk_own PySem.F.excBase_ValueError h_BadText.x h_BadText.g h_BadText.k (raises_own h_BadText.b h_BadText.t) rfl))) pss_nil)
      (pss_cons (ps_for (passes_of rfl) rfl (pi_str (pv 1)) (pg_name (i := 2) sc_share_of.nd rfl (Or.inl rfl)) (pss_one (ps_if (pt_cmpR op_notIn_sign (pv 2) (pe_glob (v := .str "0123456789") (by rfl) h_FIGURES ⟨_, rfl⟩) rfl) (pss_one (ps_raise rfl (takes_of rfl rfl rfl rfl) (pmk_own PySem.F.excBase_ValueError h_BadText.x h_BadText.g h_BadText.k (raises_own h_BadText.b h_BadText.t) rfl))) pss_nil)))
      (pss_one (ps_ret (pe_callTy call_int_str (by rfl) B.int (by decide +kernel) (pa_cons (pv 1) pa_nil))))))), ?_⟩
    have zw : w.length ≤ sizeLine := szl (by omega)
    refine ⟨_, rfl, _, rfl, w, rfl, zw, ?_⟩
    have ef := cut_from w
    have fl := cutS_length w (some 2) none
    dsimp only
    generalize cutS w (some 2) none = fig at ef fl
    have zf : fig.length ≤ sizeLine := szl (by omega)
    refine ⟨_, rfl, _, rfl, w, rfl, zw, rfl, _, rfl, ?_⟩
    by_cases h1 : (tl w).take 2 = [49, 47]
    · rw [show decide (V.str (cutS w none (some 2)) = V.str "1/") = true from decide_eq_true (str_eq.mpr (by rw [cut_to, h1, lit_1]))]
      refine iteF ?_
      refine ⟨_, rfl, rfl, _, rfl, ?_⟩
      by_cases h2 : tl fig = []
      · rw [show decide (V.str fig = V.str "") = true from decide_eq_true (str_eq.mpr (by rw [h2, lit_e]))]
        refine iteT (iteT ?_)
        exact kE (shareF_no fun z => z.2.1 (by rw [← ef]; exact h2))
      · rw [show decide (V.str fig = V.str "") = false from decide_eq_false (fun z => h2 (by rw [str_eq.mp z, lit_e]))]
        refine iteF ?_
        refine ⟨_, rfl, fig, rfl, zf, _, _, rfl, rfl, _, rfl, ite2 (fun h3 => ?_) (fun h3 => ?_)⟩
        · refine iteT ?_
          have h3 : (400 : Int) < (fig.length : Int) := of_decide_eq_true h3
          refine kE (shareF_no fun z => ?_)
          have := z.2.2.1
          rw [← ef, ← len_tl] at this
          omega
        · have h3 : ¬ (400 : Int) < (fig.length : Int) := fun z => h3 (decide_eq_true z)
          obtain ⟨c, r, ec⟩ := List.exists_cons_of_ne_nil h2
          have at0 : (tl fig)[0]? = some c := by rw [ec] <;> rfl
          refine ⟨_, rfl, fig, _, c, rfl, rfl, zf, atI_nat (j := 0) at0, rfl, _, rfl, ?_⟩
          by_cases h4 : c = 48
          · rw [show decide (V.str ⟨#[c]⟩ = V.str "0") = true from decide_eq_true (by rw [h4] <;> rfl)]
            refine iteT ?_
            refine kE (shareF_no fun z => z.2.2.2.1 ?_)
            rw [← ef, ec, h4] <;> rfl
          · rw [show decide (V.str ⟨#[c]⟩ = V.str "0") = false from decide_eq_false (fun z => h4 (sign_eq.mp z))]
            refine iteF ?_
            refine ⟨_, rfl, fig, rfl, for_str (fun i σ H' => H' = H ∧ (∃ v : Option V, σ = [some (.str w), some (.str fig), v]) ∧ ∀ (j d : Nat), j < i → (tl fig)[j]? = some d → 48 ≤ d ∧ d ≤ 57) ⟨rfl, ⟨none, rfl⟩, fun j d z => absurd z (by omega)⟩ ?_ ?_⟩
            · rintro i d σ H' ed ⟨rfl, ⟨v, rfl⟩, all⟩
              refine ⟨_, rfl, d, _, rfl, rfl, _, rfl, ?_⟩
              by_cases h5 : d ∈ tl ("0123456789" : Str)
              · rw [show decide (d ∈ ("0123456789" : Str).cps.toList) = true from decide_eq_true h5]
                refine iteF ⟨rfl, ⟨_, rfl⟩, fun j d' hj e' => ?_⟩
                by_cases hji : j < i
                · exact all j d' hji e'
                · obtain rfl : j = i := by omega
                  rw [ed] at e'
                  cases e'
                  exact figs.mp h5
              · rw [show decide (d ∈ ("0123456789" : Str).cps.toList) = false from decide_eq_false h5]
                refine iteT ?_
                refine kE (shareF_no fun z => h5 (figs.mpr (z.2.2.2.2 d ?_)))
                rw [← ef]
                exact List.mem_of_getElem? ed
            · rintro σ H' ⟨rfl, ⟨v, rfl⟩, all⟩
              have dig : NumText.AllDigits (tl fig) := fun d hd => by
                obtain ⟨j, hj⟩ := List.mem_iff_getElem?.mp hd
                exact all j d (lt_of_get hj) hj
              have yes := shareF_yes (l := tl w) ⟨h1, by rw [← ef]; exact h2, by rw [← ef, ← len_tl]; omega, by rw [← ef, ec]; exact fun z => h4 (Option.some.inj z), by rw [← ef]; exact dig⟩
              rw [← ef] at yes
              exact ⟨_, rfl, fig, _, rfl, intText_digits dig h2 (by omega), by omega, kQ _ yes⟩
    · rw [show decide (V.str (cutS w none (some 2)) = V.str "1/") = false from decide_eq_false (fun z => h1 (by rw [← cut_to, str_eq.mp z, lit_1]))]
      refine iteT (iteT ?_)
      exact kE (shareF_no fun z => h1 z.1)

abbrev s_read : Stmt := topS 8
abbrev N_read : List Str := ["text", "shares", "k", "word"]
theorem sc_read : FnScope N_read ["text"] (defScope s_read) := ⟨rfl, rfl, rfl, by decide +kernel, rfl, by decide +kernel, by decide +kernel⟩
open TL
/-- the text is read to these shares -/
def ReadsTo (t : Str) (ms : List Nat) : Prop := (tl t = [48] ∧ ms = []) ∨ (tl t ≠ [48] ∧ wordsF t = ms.map some ∧ Ris (ms.map fun (m : Nat) => (m : Int)) ∧ ∀ w ∈ Txt.split t gap, w.length ≤ 1000000)
def sp_read (K : PySem.W.Frag) (_ : ErrA) : Sp := fun vs H Q _ => ∃ t : Str, vs = [.str t] ∧ t.length ≤ 1000000 ∧ ∃ ms : List Nat, ReadsTo t ms ∧
  ∀ H' p, Same H H' → H p = none → H' p = some (.lst ((ms.map fun (m : Nat) => (m : Int)).map V.int)) → Q (.ref p) H'
theorem ok_read (D : Stands K mg "read" s_read) (B : Bi mg) (Er : ErrOk K mg e)
    (h_share_of : Keeps P w K mg base 1 "share_of" ["word"] (sp_share_of K e)) : Keeps P w K mg base 2 "read" ["text"] (sp_read K e) := by
  obtain ⟨f, fd, F, mF⟩ := D
  obtain ⟨f_share_of, fd_share_of, G_share_of, b_share_of, m_share_of, k_share_of⟩ := h_share_of
  have h_NotRising := Er.NotRising
  refine ⟨f, fd, ?_, F.binds (ps := ["text"]) (fun _ _ _ _ _ _ us hl => match us, hl with | [_], _ => rfl), mF, F.kp⟩
  refine F.okX sc_read (fun vs H Q E h => ?_) (fun cdv A outer s H vs Q E hr h => ?_)
  · obtain ⟨t, rfl, hl, ms, g, q⟩ := h
    rfl
  · obtain ⟨t, rfl, hl, ms, g, q⟩ := h
    refine ⟨_, (pss_cons (ps_if (pt_cmpR op_eq (pv 0) pe_str (nomark _)) (pss_one (ps_ret (pe_lst pa_nil))) pss_nil)
      (pss_cons (ps_setLc (i := 1) (own := [("word", 3)]) (g := gName 3) (tt := tYes) (by rfl) sc_read.nd rfl rfl (sw_true rfl rfl rfl (by decide +kernel)) (pi_list (pe_split (pv 0) pe_str)) (blkOk_by (N := N_read) (sc := defScope s_read) (by decide +kernel)) (fun _ _ _ _ _ => pg_name (i := 3) sc_read.nd rfl (Or.inl rfl)) (fun _ _ _ _ _ => pts_nil) (fun _ _ _ _ _ => (pe_call G_share_of (hr.mono (by decide)) (by rfl) m_share_of k_share_of b_share_of .nil passL (pa_cons (pv 3) pa_nil))))
      (pss_cons (ps_for (passes_of rfl) rfl (pi_range2 (by rfl) B.range (pa_cons pe_int (pa_cons (pe_callB call_len_seq (by rfl) B.len (by decide +kernel) (pa_cons (pv 1) pa_nil)) pa_nil))) (pg_name (i := 2) sc_read.nd rfl (Or.inl rfl)) (pss_one (ps_if (pt_cmpR op_ge (pe_ix ix_list (pv 1) (pe_op op_sub (pv 2) pe_int) (fun _ _ => rfl)) (pe_ix ix_list (pv 1) (pv 2) (fun _ _ => rfl)) (nomark _)) (pss_one (ps_raise rfl (takes_of rfl rfl rfl rfl) (pmk_own PySem.F.excBase_ValueError h_NotRising.x h_NotRising.g h_NotRising.k (raises_own h_NotRising.b h_NotRising.t) rfl))) pss_nil)))
      (pss_one (ps_ret (pv 1)))))), ?_⟩
    rcases g with ⟨t0, rfl⟩ | ⟨t0, ew, ris, wl⟩
    · refine ⟨_, rfl, rfl, _, rfl, ?_⟩
      rw [show decide (V.str t = V.str "0") = true from decide_eq_true (str_eq.mpr (by rw [t0, lit_0]))]
      refine iteT ?_
      exact ⟨Nat.zero_le _, fun p np => q _ p (same_new np) np upd_same⟩
    · refine ⟨_, rfl, rfl, _, rfl, ?_⟩
      rw [show decide (V.str t = V.str "0") = false from decide_eq_false (fun z => t0 (by rw [str_eq.mp z, lit_0]))]
      refine iteF ?_
      refine ⟨_, rfl, ⟨_, rfl⟩, t, _, rfl, rfl, by decide +kernel, szl (by omega), fun W nW => ?_⟩
      have s1 := same_new (o := .lst ((Txt.split t gap).map V.str)) nW
      have eW : (upd H W (.lst ((Txt.split t gap).map V.str))) W = some (.lst ((Txt.split t gap).map V.str)) := upd_same
      refine ⟨W, rfl, ⟨_, SqL.of eW⟩, fun D nD => ?_⟩
      have ml : ms.length = (Txt.split t gap).length := by
        have := congrArg List.length ew
        unfold wordsF at this
        rw [List.length_map, List.length_map] at this
        exact this.symm
      have sl := PyProof.Rows.split_le t gap
      refine lc_list (K := K) (a := W) (xs := (Txt.split t gap).map V.str) (fun i H' => Same (upd H W (.lst ((Txt.split t gap).map V.str))) H' ∧ H' D = some (.lst (((ms.take i).map fun (m : Nat) => (m : Int)).map V.int))) ⟨same_new nD, upd_same⟩ (fun i H' _ h => SqL.of (h.1 _ _ eW)) ?_ ?_
      · rintro i y H1 hy ⟨s2, e2⟩
        obtain ⟨w, ex, rfl⟩ := of_get_map hy
        have hw := List.mem_of_getElem? ex
        have hi := lt_of_get ex
        have em : (ms.map some)[i]? = some (shareF (tl w)) := by
          rw [← ew]
          unfold wordsF
          rw [List.getElem?_map, ex] <;> rfl
        obtain ⟨m, em, es⟩ := of_get_map em
        refine ⟨rfl, _, rfl, w, rfl, wl w hw, fun z => absurd (es.symm.trans z) (by simp), fun m' em' => ?_⟩
        obtain rfl : m' = m := by
          rw [em'] at es
          exact Option.some.inj es
        refine ⟨_, e2, ?_, same_mut s2 nD, ?_⟩
        · rw [List.length_map, List.length_map, List.length_take]
          exact szl_lt (by omega)
        · rw [upd_same, take_snoc em, List.map_append, List.map_append] <;> rfl
      · rintro H1 ⟨s2, e2⟩
        rw [List.length_map, ← ml, List.take_length] at e2
        have s12 := s1.trans s2
        have nD0 := s1.free nD
        have xl : (ms.map fun (m : Nat) => (m : Int)).length ≤ 1000003 := by
          rw [List.length_map, ml]
          omega
        generalize (ms.map fun (m : Nat) => (m : Int)) = xs at *
        refine ⟨_, rfl, D, _, rfl, .inl (SqL.of e2), 1, _, rfl, ⟨by decide, by decide, by omega, by rw [List.length_map]; omega⟩, ?_⟩
        have en : (((xs.map V.int).length : Int) - 1).toNat = xs.length - 1 := by
          rw [List.length_map]
          omega
        rw [en]
        refine for_range (lo := 1) (n := _) (fun i σ H' => H' = H1 ∧ ∃ v : Option V, σ = [some (.str t), some (.ref D), v, none]) ⟨rfl, none, rfl⟩ ?_ ?_
        · rintro i σ H' hi ⟨rfl, v, rfl⟩
          have i1 : i < xs.length := by omega
          have i2 : i + 1 < xs.length := by omega
          have g1 : (xs.map V.int)[i]? = some (.int xs[i]) := get_map (List.getElem?_eq_getElem i1)
          have g2 : (xs.map V.int)[i + 1]? = some (.int xs[i + 1]) := get_map (List.getElem?_eq_getElem i2)
          have lt := ris_at ris (List.getElem?_eq_getElem i1) (List.getElem?_eq_getElem i2)
          refine ⟨_, rfl, _, rfl, _, _, rfl, rfl, D, _, _, _, rfl, rfl, SqL.of e2, at_of (j := i) (by omega) g1, _, rfl, _, rfl, D, _, _, _, rfl, rfl, SqL.of e2, at_of (j := i + 1) (by omega) g2, _, _, rfl, rfl, _, rfl, ?_⟩
          rw [decide_eq_false (by omega)]
          exact iteF ⟨rfl, _, rfl⟩
        · rintro σ H' ⟨rfl, v, rfl⟩
          exact ⟨_, rfl, q H' D s12 nD0 e2⟩

abbrev s_law_cell_at : Stmt := topS 10
abbrev N_law_cell_at : List Str := ["script", "k"]
theorem sc_law_cell_at : FnScope N_law_cell_at ["script", "k"] (defScope s_law_cell_at) := ⟨rfl, rfl, rfl, by decide +kernel, rfl, by decide +kernel, by decide +kernel⟩
/-- script[k], nought beyond the end -/
def cell (ns : List Int) (k : Nat) : Int := ns.getD k 0
theorem cell_arg {a : Addr} {x : Int} {k : Nat} (h : x = k) : [V.ref a, V.int x] = [V.ref a, V.int (k : Int)] := by rw [h]
def sp_law_cell_at (K : PySem.W.Frag) (_ : ErrA) : Sp := fun vs H Q _ => ∃ (a : Addr) (ns : List Int) (k : Nat), vs = [.ref a, .int k] ∧ SqL K H a (ns.map V.int) ∧ ns.length ≤ 63 ∧ Q (.int (cell ns k)) H
theorem ok_law_cell_at (D : Stands K mg "_law_cell_at" s_law_cell_at) (B : Bi mg) (Er : ErrOk K mg e) : Keeps P w K mg base 1 "_law_cell_at" ["script", "k"] (sp_law_cell_at K e) := by
  obtain ⟨f, fd, F, mF⟩ := D
  refine ⟨f, fd, ?_, F.binds (ps := ["script", "k"]) (fun _ _ _ _ _ _ us hl => match us, hl with | [_, _], _ => rfl), mF, F.kp⟩
  refine toX (F.ok sc_law_cell_at (fun vs H Q E h => ?_) (fun cdv A outer s H vs Q E hr h => ?_))
  · obtain ⟨a, ns, k, rfl, hS, hk, q⟩ := h
    rfl
  · obtain ⟨a, ns, k, rfl, hS, hk, q⟩ := h
    refine ⟨_, (pss_cons (ps_if (pt_cmpR op_lt (pv 1) (pe_callB call_len_seq (by rfl) B.len (by decide +kernel) (pa_cons (pv 0) pa_nil)) (nomark _)) (pss_one (ps_ret (pe_ix ix_list (pv 0) (pv 1) (fun _ _ => rfl)))) pss_nil)
      (pss_one (ps_ret pe_int))), ?_⟩
    refine ⟨_, rfl, _, rfl, a, _, rfl, .inl hS, _, _, rfl, rfl, _, rfl, ite2 (fun c => ?_) (fun c => ?_)⟩
    · have c := of_decide_eq_true c
      rw [List.length_map] at c
      have hl : k < ns.length := by omega
      have g : ns[k]? = some (cell ns k) := by
        unfold cell
        rw [List.getD_eq_getElem?_getD, List.getElem?_eq_getElem hl] <;> rfl
      exact ⟨_, rfl, _, rfl, a, _, _, _, rfl, rfl, hS, atI_nat (get_map g), q⟩
    · have z : cell ns k = 0 := by
        unfold cell
        rw [List.getD_eq_getElem?_getD, List.getElem?_eq_none] <;> first | rfl | skip
        have c : ¬ ((k : Int) < ((ns.map V.int).length : Int)) := fun z => c (decide_eq_true z)
        rw [List.length_map] at c
        omega
      rw [z] at q
      exact q

abbrev s_law_whole : Stmt := topS 11
abbrev N_law_whole : List Str := ["found"]
theorem sc_law_whole : FnScope N_law_whole ["found"] (defScope s_law_whole) := ⟨rfl, rfl, rfl, by decide +kernel, rfl, by decide +kernel, by decide +kernel⟩
def sp_law_whole (K : PySem.W.Frag) (_ : ErrA) : Sp := fun vs H Q _ => ∃ i : Int, vs = [.int i] ∧ Q (.bl true) H
theorem ok_law_whole (D : Stands K mg "_law_whole" s_law_whole) (B : Bi mg) (Er : ErrOk K mg e) : Keeps P w K mg base 1 "_law_whole" ["found"] (sp_law_whole K e) := by
  obtain ⟨f, fd, F, mF⟩ := D
  refine ⟨f, fd, ?_, F.binds (ps := ["found"]) (fun _ _ _ _ _ _ us hl => match us, hl with | [_], _ => rfl), mF, F.kp⟩
  refine toX (F.ok sc_law_whole (fun vs H Q E h => ?_) (fun cdv A outer s H vs Q E hr h => ?_))
  · obtain ⟨i, rfl, q⟩ := h
    rfl
  · obtain ⟨i, rfl, q⟩ := h
    refine ⟨_, (pss_one (ps_ret (pe_and (pe_callB call_isi (by rfl) B.isinstance (by decide +kernel) (pa_cons (pv 0) (pa_cons (pe_bltn (v := .ty "int") (by rfl) B.int (by decide +kernel) rfl) pa_nil))) (pe_one (pe_not (pe_callB call_isi (by rfl) B.isinstance (by decide +kernel) (pa_cons (pv 0) (pa_cons (pe_bltn (v := .ty "bool") (by rfl) B.bool (by decide +kernel) rfl) pa_nil)))))))), ?_⟩
    refine ⟨_, rfl, _, _, _, _, true, rfl, .ty "int", .base (.int i), kit_ty (by decide +kernel), true, rfl, iteT ?_⟩
    exact ⟨_, rfl, _, _, _, _, false, rfl, .ty "bool", .base (.int i), kit_ty (by decide +kernel), false, rfl, q⟩

abbrev s_law_list : Stmt := topS 16
abbrev N_law_list : List Str := ["found", "due", "k"]
theorem sc_law_list : FnScope N_law_list ["found", "due"] (defScope s_law_list) := ⟨rfl, rfl, rfl, by decide +kernel, rfl, by decide +kernel, by decide +kernel⟩
/-- two lists of the same ints -/
def sp_law_list (K : PySem.W.Frag) (_ : ErrA) : Sp := fun vs H Q _ => ∃ (a b : Addr) (xs : List Int), vs = [.ref a, .ref b] ∧ SqL K H a (xs.map V.int) ∧ SqL K H b (xs.map V.int) ∧ xs.length ≤ 1000000 ∧ Q (.bl true) H
theorem ok_law_list (D : Stands K mg "_law_list" s_law_list) (B : Bi mg) (Er : ErrOk K mg e)
    (h_law_whole : Keeps P w K mg base 1 "_law_whole" ["found"] (sp_law_whole K e)) : Keeps P w K mg base 2 "_law_list" ["found", "due"] (sp_law_list K e) := by
  obtain ⟨f, fd, F, mF⟩ := D
  obtain ⟨f_law_whole, fd_law_whole, G_law_whole, b_law_whole, m_law_whole, k_law_whole⟩ := h_law_whole
  refine ⟨f, fd, ?_, F.binds (ps := ["found", "due"]) (fun _ _ _ _ _ _ us hl => match us, hl with | [_, _], _ => rfl), mF, F.kp⟩
  refine toX (F.ok sc_law_list (fun vs H Q E h => ?_) (fun cdv A outer s H vs Q E hr h => ?_))
  · obtain ⟨a, b, xs, rfl, hA, hB, hl, q⟩ := h
    rfl
  · obtain ⟨a, b, xs, rfl, hA, hB, hl, q⟩ := h
    refine ⟨_, (pss_cons (ps_if (PW.pt (pw_or (pt_not (pt_val (pe_callB call_isi (by rfl) B.isinstance (by decide +kernel) (pa_cons (pv 0) (pa_cons (pe_bltn (v := .ty "list") (by rfl) B.list (by decide +kernel) rfl) pa_nil))))) (pw_or1 (pt_cmpR op_ne (pe_callB call_len_seq (by rfl) B.len (by decide +kernel) (pa_cons (pv 0) pa_nil)) (pe_callB call_len_seq (by rfl) B.len (by decide +kernel) (pa_cons (pv 1) pa_nil)) (nomark _))))) (pss_one (ps_ret pe_bl)) pss_nil)
      (pss_cons (ps_for PassesOwn.never rfl (pi_range1 (by rfl) B.range (pa_cons (pe_callB call_len_seq (by rfl) B.len (by decide +kernel) (pa_cons (pv 1) pa_nil)) pa_nil)) (pg_name (i := 2) sc_law_list.nd rfl (Or.inl rfl)) (pss_one (ps_if (PW.pt (pw_or (pt_not (pt_val (pe_call G_law_whole (hr.mono (by decide)) (by rfl) m_law_whole k_law_whole b_law_whole .nil passL (pa_cons (pe_ix ix_list (pv 0) (pv 2) (fun _ _ => rfl)) pa_nil)))) (pw_or1 (pt_cmpR op_ne (pe_ix ix_list (pv 0) (pv 2) (fun _ _ => rfl)) (pe_ix ix_list (pv 1) (pv 2) (fun _ _ => rfl)) (nomark _))))) (pss_one (ps_ret pe_bl)) pss_nil)))
      (pss_one (ps_ret pe_bl)))), ?_⟩
    refine ⟨_, rfl, _, _, _, _, true, rfl, .ty "list", ty_list hA, kit_ty (by decide +kernel), true, rfl, ?_⟩
    show if (!true) = true then _ else _
    refine iteF ?_
    refine ⟨_, rfl, a, _, rfl, .inl hA, _, rfl, b, _, rfl, .inl hB, rfl, _, rfl, ?_⟩
    rw [decide_eq_true rfl]
    refine iteF ?_
    refine ⟨_, rfl, b, _, rfl, .inl hB, _, rfl, by omega, by rw [List.length_map]; omega, ?_⟩
    refine for_range (lo := 0) (n := _) (fun i σ H' => ∃ v : Option V, σ = [some (.ref a), some (.ref b), v] ∧ H' = H) ⟨none, rfl, rfl⟩ ?_ ?_
    · rintro i σ H' hi ⟨v, rfl, rfl⟩
      have hi : i < xs.length := by
        rw [List.length_map] at hi
        omega
      have g : (xs.map V.int)[i]? = some (.int xs[i]) := get_map (List.getElem?_eq_getElem hi)
      have e0 : (0 : Int) + (i : Int) = (i : Int) := by omega
      refine ⟨_, rfl, _, rfl, a, _, _, _, rfl, rfl, hA, by rw [e0]; exact atI_nat g, _, rfl, true, rfl, ?_⟩
      show if (!true) = true then _ else _
      refine iteF ?_
      refine ⟨_, rfl, _, rfl, a, _, _, _, rfl, rfl, hA, by rw [e0]; exact atI_nat g, _, rfl, _, rfl, b, _, _, _, rfl, rfl, hB, by rw [e0]; exact atI_nat g, rfl, _, rfl, ?_⟩
      rw [decide_eq_true rfl]
      exact iteF ⟨_, rfl, rfl⟩
    · rintro σ H' ⟨v, rfl, rfl⟩
      exact q

abbrev s_law_share : Stmt := topS 17
abbrev N_law_share : List Str := ["cell"]
theorem sc_law_share : FnScope N_law_share ["cell"] (defScope s_law_share) := ⟨rfl, rfl, rfl, by decide +kernel, rfl, by decide +kernel, by decide +kernel⟩
def sp_law_share (K : PySem.W.Frag) (_ : ErrA) : Sp := fun vs H Q _ => ∃ z : Int, vs = [.int z] ∧ ∀ n : Nat, 1 ≤ n → n ≤ 10 ^ 100 → Q (.int (n : Int)) H
theorem ok_law_share (D : Stands K mg "_law_share" s_law_share) (B : Bi mg) (Er : ErrOk K mg e) : Keeps P w K mg base 1 "_law_share" ["cell"] (sp_law_share K e) := by
  obtain ⟨f, fd, F, mF⟩ := D
  refine ⟨f, fd, ?_, F.binds (ps := ["cell"]) (fun _ _ _ _ _ _ us hl => match us, hl with | [_], _ => rfl), mF, F.kp⟩
  refine toX (F.ok sc_law_share (fun vs H Q E h => ?_) (fun cdv A outer s H vs Q E hr h => ?_))
  · obtain ⟨z, rfl, q⟩ := h
    rfl
  · obtain ⟨z, rfl, q⟩ := h
    refine ⟨_, (pss_cons (ps_if (pt_cmpR op_eq (pe_op op_mod (pv 0) pe_int) pe_int (nomark _)) (pss_one (ps_ret (pe_op op_add pe_int (pe_op op_mod (pe_op op_fdivP (pv 0) pe_int) (pe_callTy call_int_str (by rfl) B.int (by decide +kernel) (pa_cons (pe_op op_add_str pe_str (pe_op op_rep_str pe_str pe_int)) pa_nil)))))) pss_nil)
      (pss_one (ps_ret (pe_op op_add pe_int (pe_op op_mod (pe_op op_fdivP (pv 0) pe_int) pe_int))))), ?_⟩
    refine ⟨_, rfl, _, _, rfl, rfl, by show (0 : Int) < 5; decide, rfl, _, rfl, ite2 (fun c => ?_) (fun c => ?_)⟩
    · refine ⟨_, rfl, _, _, rfl, rfl, (Sz.lit : Sz 3 5).cd (by decide), _, _, rfl, rfl, noughts100.ok, _, _, rfl, rfl, Nat.le_trans noughts100.len (by decide), _, _, rfl, noughts100.num, noughts100.len2, ?_⟩
      have g0 : 0 < ((10 ^ 100 : Nat) : Int) := Int.natCast_pos.mpr (Nat.pow_pos (by decide))
      generalize (10 ^ 100 : Nat) = g at q g0
      have m1 := Int.emod_nonneg (z / 5) (b := (g : Int)) (by omega)
      have m2 := Int.emod_lt_of_pos (z / 5) g0
      refine ⟨_, _, rfl, rfl, by show 0 < (g : Int); exact g0, _, _, rfl, rfl, ?_⟩
      have k := q (1 + z / 5 % (g : Int)).toNat (by omega) (by omega)
      rw [show (((1 + z / 5 % (g : Int)).toNat : Nat) : Int) = 1 + z / 5 % (g : Int) by omega] at k
      exact k
    · refine ⟨_, rfl, _, _, rfl, rfl, (Sz.lit : Sz 3 5).cd (by decide), _, _, rfl, rfl, by show (0 : Int) < 100; decide, _, _, rfl, rfl, ?_⟩
      have big : 100 ≤ 10 ^ 100 := by decide +kernel
      have k := q (1 + z / 5 % 100).toNat (by omega) (Nat.le_trans (by omega) big)
      rw [show (((1 + z / 5 % 100).toNat : Nat) : Int) = 1 + z / 5 % 100 by omega] at k
      exact k

abbrev s_law : Stmt := topS 18
abbrev N_law : List Str := ["script", "shares", "due", "share", "handed", "found", "again", "k"]
theorem sc_law : FnScope N_law ["script"] (defScope s_law) := ⟨rfl, rfl, rfl, by decide +kernel, rfl, by decide +kernel, by decide +kernel⟩
open TL
/-- a few shares that one may write -/
structure FewW (xs : List Int) : Prop where
  len : xs.length ≤ 10
  wr : Wr xs
/-- the text so far -/
def dueF (xs : List Int) : Str := if xs = [] then ("" : Str) else Txt.join gap (xs.map wordF)
theorem due_snoc {xs : List Int} {x : Int} : dueF (xs ++ [x]) = (if xs = [] then ("" : Str) else dueF xs ++ (" + " : Str)) ++ ("1/" : Str) ++ Str.ofString (toString x) := by
  unfold dueF
  rw [if_neg (by simp), List.map_append, List.map_singleton]
  refine ext_tl ?_
  by_cases c : xs = []
  · subst c
    rw [List.map_nil, List.nil_append, join_one, if_pos rfl]
    unfold wordF
    rw [tl_append, tl_append, tl_append, lit_e, List.nil_append]
  · rw [if_neg c, if_neg c, join_snoc (by simpa using c)]
    unfold wordF
    rw [tl_append, tl_append, tl_append, tl_append, tl_append, tl_append, List.append_assoc, List.append_assoc]
    exact (List.append_assoc _ _ _).symm
theorem due_len {xs : List Int} (h : FewW xs) : (dueF xs).length ≤ 4050 := by
  unfold dueF
  split
  · exact Nat.zero_le _
  · have := shown_len h.wr
    have := h.len
    omega
theorem due_ne {xs : List Int} (h : Wr xs) (ne : xs ≠ []) : tl (dueF xs) ≠ [] := by
  unfold dueF
  rw [if_neg ne]
  obtain ⟨x, r, rfl⟩ := List.exists_cons_of_ne_nil ne
  obtain ⟨n, rfl, _, _⟩ := h x List.mem_cons_self
  rw [join_tl, List.map_cons, List.map_cons, tl_word]
  intro z
  cases r with
  | nil => exact absurd (congrArg List.head? z) (by show ¬ (some 49 = none); decide)
  | cons y r => exact absurd (congrArg List.head? z) (by show ¬ (some 49 = none); decide)
theorem FewW.take {xs : List Int} (h : FewW xs) (i : Nat) : FewW (xs.take i) := ⟨by rw [List.length_take]; have := h.len; omega, fun x hx => h.wr x (List.mem_of_mem_take hx)⟩
theorem back_ints {xs : List Int} (h : Wr xs) : ((xs.map Int.toNat).map fun (m : Nat) => (m : Int)) = xs := by
  rw [List.map_map]
  refine (List.map_congr_left fun x hx => ?_).trans (List.map_id _)
  obtain ⟨n, rfl, _, _⟩ := h x hx
  rfl
theorem reads_shown {xs : List Int} (h : FewW xs) (r : Ris xs) : ReadsTo (shownF xs) (xs.map Int.toNat) := by
  by_cases c : xs = []
  · subst c
    exact .inl ⟨lit_0, rfl⟩
  · rw [shown_cons c]
    refine .inr ⟨shown_not0 h.wr c, ?_, by rw [back_ints h.wr]; exact r, fun w hw => Nat.le_trans (split_len h.wr c w hw) (by decide)⟩
    rw [words_shown h.wr c, List.map_map] <;> rfl
def sp_law (K : PySem.W.Frag) : Sp := fun vs H Q _ => ∃ (a : Addr) (ns : List Int), vs = [.ref a] ∧ SqL K H a (ns.map V.int) ∧ ns.length ≤ 63 ∧ ∀ H', Q (.bl true) H'
theorem ok_law {f : Addr} {fd : FuncData} (F : Fun K "law" "law" s_law f fd) (B : Bi mg) (Er : ErrOk K mg e)
    (h_shown : Keeps P w K mg base 1 "shown" ["shares"] (sp_shown K e))
    (h_read : Keeps P w K mg base 2 "read" ["text"] (sp_read K e))
    (h_law_list : Keeps P w K mg base 2 "_law_list" ["found", "due"] (sp_law_list K e))
    (h_law_share : Keeps P w K mg base 1 "_law_share" ["cell"] (sp_law_share K e))
    (h_law_cell_at : Keeps P w K mg base 1 "_law_cell_at" ["script", "k"] (sp_law_cell_at K e)) : FnOk P w K mg base CX0 3 f fd ["script"] (sp_law K) := by
  obtain ⟨f_shown, fd_shown, G_shown, b_shown, m_shown, k_shown⟩ := h_shown
  obtain ⟨f_read, fd_read, G_read, b_read, m_read, k_read⟩ := h_read
  obtain ⟨f_law_list, fd_law_list, G_law_list, b_law_list, m_law_list, k_law_list⟩ := h_law_list
  obtain ⟨f_law_share, fd_law_share, G_law_share, b_law_share, m_law_share, k_law_share⟩ := h_law_share
  obtain ⟨f_law_cell_at, fd_law_cell_at, G_law_cell_at, b_law_cell_at, m_law_cell_at, k_law_cell_at⟩ := h_law_cell_at
  refine F.ok sc_law (fun vs H Q E h => ?_) (fun cdv A outer s H vs Q E hr h => ?_)
  · obtain ⟨a, ns, rfl, _⟩ := h
    rfl
  · obtain ⟨a, ns, rfl, hS, hlen, kq⟩ := h
    refine ⟨_, (pss_cons (ps_setLc (i := 1) (own := [("k", 7)]) (g := gName 7) (tt := tYes) (by rfl) sc_law.nd rfl rfl (sw_true rfl rfl rfl (by decide +kernel)) (pi_range1 (by rfl) B.range (pa_cons (pe_op op_mod (pe_call G_law_cell_at (hr.mono (by decide)) (by rfl) m_law_cell_at k_law_cell_at b_law_cell_at .nil passL (pa_cons (pv 0) (pa_cons pe_int pa_nil))) pe_int) pa_nil)) (blkOk_by (N := N_law) (sc := defScope s_law) (by decide +kernel)) (fun _ _ _ _ _ => pg_name (i := 7) sc_law.nd rfl (Or.inl rfl)) (fun _ _ _ _ _ => pts_nil) (fun _ _ _ _ _ => (pe_call G_law_share (hr.mono (by decide)) (by rfl) m_law_share k_law_share b_law_share .nil passL (pa_cons (pe_call G_law_cell_at (hr.mono (by decide)) (by rfl) m_law_cell_at k_law_cell_at b_law_cell_at .nil passL (pa_cons (pv 0) (pa_cons (pe_op op_add pe_int (pv 7)) pa_nil))) pa_nil))))
      (pss_cons (ps_if (pt_cmpR op_gt (pe_op op_mod (pe_op op_fdivP (pe_call G_law_cell_at (hr.mono (by decide)) (by rfl) m_law_cell_at k_law_cell_at b_law_cell_at .nil passL (pa_cons (pv 0) (pa_cons pe_int pa_nil))) pe_int) pe_int) pe_int (nomark _)) (pss_one (ps_set (i := 1) sc_law.nd rfl (Or.inl rfl) (pe_callB (cr_sortedSet rfl) (by rfl) B.sorted (by decide +kernel) (pa_cons (pe_callTy (cr_setL rfl) (by rfl) B.set (by decide +kernel) (pa_cons (pv 1) pa_nil)) pa_nil)))) pss_nil)
      (pss_cons (ps_set (i := 2) sc_law.nd rfl (Or.inl rfl) pe_str)
      (pss_cons (ps_for PassesOwn.never rfl (pi_list (pv 1)) (pg_name (i := 3) sc_law.nd rfl (Or.inl rfl)) (pss_cons (ps_if (pt_cmpR op_ne (pv 2) pe_str (nomark _)) (pss_one (ps_set (i := 2) sc_law.nd rfl (Or.inl rfl) (pe_op op_add_str (pv 2) pe_str))) pss_nil)
      (pss_one (ps_set (i := 2) sc_law.nd rfl (Or.inl rfl) (pe_op op_add_str (pe_op op_add_str (pv 2) pe_str) (pe_callTy call_str_int (by rfl) B.str (by decide +kernel) (pa_cons (pv 3) pa_nil)))))))
      (pss_cons (ps_if (pt_cmpR (op_eqD hr.units) (pv 1) (pe_lst pa_nil) (nomark _)) (pss_one (ps_set (i := 2) sc_law.nd rfl (Or.inl rfl) pe_str)) pss_nil)
      (pss_cons (ps_set (i := 4) sc_law.nd rfl (Or.inl rfl) (pe_callTy call_list_of (by rfl) B.list (by decide +kernel) (pa_cons (pv 1) pa_nil)))
      (pss_cons (ps_set (i := 5) sc_law.nd rfl (Or.inl rfl) (pe_call G_shown (hr.mono (by decide)) (by rfl) m_shown k_shown b_shown .nil passL (pa_cons (pv 4) pa_nil)))
      (pss_cons (ps_if (PW.pt (pw_or (pt_not (pt_val (pe_callB call_isi (by rfl) B.isinstance (by decide +kernel) (pa_cons (pv 5) (pa_cons (pe_bltn (v := .ty "str") (by rfl) B.str (by decide +kernel) rfl) pa_nil))))) (pw_or (pt_cmpR op_ne (pv 5) (pv 2) (nomark _)) (pw_or1 (pt_cmpR (op_neD hr.units) (pv 4) (pv 1) (nomark _)))))) (pss_one (ps_ret pe_bl)) pss_nil)
      (pss_cons (ps_if (pt_cmpR (op_neD hr.units) (pv 1) (pe_callB (cr_sortedSet rfl) (by rfl) B.sorted (by decide +kernel) (pa_cons (pe_callTy (cr_setL rfl) (by rfl) B.set (by decide +kernel) (pa_cons (pv 1) pa_nil)) pa_nil)) (nomark _)) (pss_one (ps_ret pe_bl)) pss_nil)
      (pss_cons (ps_set (i := 6) sc_law.nd rfl (Or.inl rfl) (pe_call G_read (hr.mono (by decide)) (by rfl) m_read k_read b_read .nil passL (pa_cons (pv 2) pa_nil)))
      (pss_cons (ps_if (pt_not (pt_val (pe_call G_law_list (hr.mono (by decide)) (by rfl) m_law_list k_law_list b_law_list .nil passL (pa_cons (pv 6) (pa_cons (pv 1) pa_nil))))) (pss_one (ps_ret pe_bl)) pss_nil)
      (pss_cons (ps_expr (pe_bm PySem.F.plainAttrs_list PySem.F.slot_list_append PySem.F.type_list_append mt_append (pv 6) (pa_cons pe_int pa_nil)))
      (pss_one (ps_ret (pe_call G_law_list (hr.mono (by decide)) (by rfl) m_law_list k_law_list b_law_list .nil passL (pa_cons (pe_call G_read (hr.mono (by decide)) (by rfl) m_read k_read b_read .nil passL (pa_cons (pv 2) pa_nil)) (pa_cons (pv 1) pa_nil))))))))))))))))), ?_⟩
    obtain ⟨n, en⟩ : ∃ n : Nat, cell ns 0 % 11 = (n : Int) := ⟨(cell ns 0 % 11).toNat, by omega⟩
    refine ⟨_, rfl, a, ns, 0, rfl, hS, hlen, _, _, rfl, rfl, by show (0 : Int) < 11; decide, _, rfl, by omega, by omega, fun D hD => ?_⟩
    refine lc_range (lo := 0) (n := _) (fun i H' => Same H H' ∧ ∃ xs : List Int, xs.length = i ∧ Wr xs ∧ H' D = some (.lst (xs.map V.int))) ⟨same_new hD, [], rfl, (fun _ h => nomatch h), upd_same⟩ ?_ ?_
    · rintro i H' hi ⟨hs, xs, el, hx, he⟩
      refine ⟨rfl, _, rfl, _, rfl, _, _, rfl, rfl, a, ns, 1 + i, cell_arg (by omega), hs.seq hS, hlen, _, rfl, fun m m1 m2 => ?_⟩
      refine ⟨_, he, by rw [List.length_map]; exact szl_lt (by omega), same_mut hs hD, xs ++ [(m : Int)], by rw [List.length_append, el] <;> rfl, fun y hy => ?_, by rw [upd_same, List.map_append] <;> rfl⟩
      rcases List.mem_append.mp hy with k | k
      · exact hx y k
      · rw [List.mem_singleton.mp k]
        refine ⟨m, rfl, m1, Nat.le_trans (numL_len (k := 101) (by decide) ?_) (by decide)⟩
        have : 10 ^ 100 < 10 ^ 101 := by decide +kernel
        omega
    rintro H1 ⟨s1, xs, el, hx, e1⟩
    have few : FewW xs := ⟨by omega, hx⟩
    dsimp only
    refine cut (fun σ' H' => ∃ (D : Addr) (xs : List Int), Same H H' ∧ FewW xs ∧ H' D = some (.lst (xs.map V.int)) ∧ σ' = [some (.ref a), some (.ref D), none, none, none, none, none, none]) (fun R D' k => ?_) ?_
    · refine ⟨_, rfl, a, ns, 0, rfl, s1.seq hS, hlen, _, _, rfl, rfl, (Sz.lit : Sz 4 11).cd (by decide), _, _, rfl, rfl, by show (0 : Int) < 3; decide, _, _, rfl, rfl, _, rfl, ite2 (fun c => ?_) (fun c => ?_)⟩
      · refine ⟨_, rfl, D, xs, rfl, SqL.of e1, by have := few.len; omega, fun p c np hc => ?_⟩
        refine ⟨p, _, _, rfl, upd_same, by have := few.len; omega, fun ys q pw mem hl nq => ?_⟩
        refine k _ _ ⟨q, ys, (s1.trans (same_new np)).trans (same_new nq), ⟨by have := few.len; omega, fun y hy => hx y (of_decide_eq_true ((mem y).mp hy))⟩, upd_same, rfl⟩
      · exact k _ _ ⟨D, xs, s1, few, e1, rfl⟩
    clear few hx e1 el s1
    rintro σ H2 ⟨D2, xs, s2, few, e2, rfl⟩
    refine ⟨_, rfl, D2, rfl, ⟨_, SqL.of e2⟩, for_list (K := K) (a := D2) (xs := xs.map V.int) (fun i σ H' => H' = H2 ∧ ∃ v : Option V, σ = [some (.ref a), some (.ref D2), some (.str (dueF (xs.take i))), v, none, none, none, none]) ⟨rfl, none, rfl⟩ (fun i σ H' _ h => h.1 ▸ SqL.of e2) ?_ ?_⟩
    · rintro i y σ H' hy ⟨rfl, v, rfl⟩
      obtain ⟨x, ex, rfl⟩ := of_get_map hy
      have hxm := List.mem_of_getElem? ex
      have dl := due_len (few.take i)
      have wl : (wordF x).length ≤ 402 := by
        obtain ⟨n, rfl, _, nl⟩ := few.wr x hxm
        exact word_len nl
      unfold wordF at wl
      rw [Str.length_append] at wl
      have gl : (" + " : Str).length = 3 := by decide +kernel
      have ol : ("1/" : Str).length = 2 := by decide +kernel
      refine cut (fun σ' H1 => H1 = H' ∧ σ' = [some (.ref a), some (.ref D2), some (.str (if xs.take i = [] then ("" : Str) else dueF (xs.take i) ++ (" + " : Str))), some (.int x), none, none, none, none]) (fun R D' k => ?_) ?_
      · refine ⟨_, rfl, rfl, _, rfl, ?_⟩
        by_cases c : xs.take i = []
        · rw [c]
          rw [show decide (V.str (dueF []) = V.str "") = true from decide_eq_true rfl]
          refine iteF (k _ _ ⟨rfl, ?_⟩)
          rw [if_pos c] <;> rfl
        · rw [show decide (V.str (dueF (xs.take i)) = V.str "") = false from decide_eq_false fun z => due_ne (few.take i).wr c (by rw [str_eq.mp z, lit_e])]
          refine iteT ⟨_, rfl, _, _, rfl, rfl, Nat.le_trans (by omega : _ ≤ 4053) (szl (by decide)), k _ _ ⟨rfl, ?_⟩⟩
          rw [if_neg c] <;> rfl
      · rintro σ H1 ⟨rfl, rfl⟩
        have dl2 : (if xs.take i = [] then ("" : Str) else dueF (xs.take i) ++ (" + " : Str)).length ≤ 4053 := by
          split
          · exact Nat.zero_le _
          · rw [Str.length_append]
            omega
        refine ⟨_, rfl, _, _, rfl, rfl, Nat.le_trans (by omega : _ ≤ 5000) (szl (by decide)), _, rfl, x, rfl, wr_log few.wr hxm, _, _, rfl, rfl, ?_, rfl, some (.int x), ?_⟩
        · rw [Str.length_append]
          exact Nat.le_trans (by omega : _ ≤ 6000) (szl (by decide))
        · rw [take_snoc ex, due_snoc] <;> rfl
    · rintro σ H' ⟨rfl, v, rfl⟩
      rw [List.length_map, List.take_length]
      dsimp only
      refine cut (fun σ' H1 => Same H' H1 ∧ σ' = [some (.ref a), some (.ref D2), some (.str (shownF xs)), v, none, none, none, none]) (fun R D' k => ?_) ?_
      · refine ⟨_, rfl, Nat.zero_le _, fun z nz => ⟨_, _, dp_ints (SqL.of (same_new nz _ _ e2)), dp_ints (xs := []) (SqL.of upd_same), shaped_ints _, rfl, _, rfl, ?_⟩⟩
        rw [eqv_ints]
        refine ite2 (fun c => ?_) (fun c => ?_)
        · refine k _ _ ⟨same_new nz, ?_⟩
          rw [of_decide_eq_true c] <;> rfl
        · have ne : xs ≠ [] := fun z => c (decide_eq_true z)
          refine k _ _ ⟨same_new nz, ?_⟩
          unfold dueF shownF
          rw [if_neg ne, if_neg ne] <;> rfl
      rintro σ H3 ⟨s3, rfl⟩
      have e3 := s3 _ _ e2
      refine ⟨_, rfl, D2, _, rfl, .inl (SqL.of e3), fun h nh => ?_⟩
      have s4 := same_new (o := .lst (xs.map V.int)) nh
      have eh : (upd H3 h (.lst (xs.map V.int))) h = some (.lst (xs.map V.int)) := upd_same
      have e4 := s4 _ _ e3
      generalize (upd H3 h (.lst (xs.map V.int))) = H4 at s4 eh e4
      have xl := few.len
      refine ⟨_, rfl, h, xs, rfl, SqL.of eh, by omega, few.wr, fun H5 s5 => ?_⟩
      have eh5 := s5 _ _ eh
      have e5 := s5 _ _ e4
      refine ⟨_, rfl, _, _, _, _, true, rfl, .ty "str", .base (.str _), kit_ty (by decide +kernel), true, rfl, ?_⟩
      show if (!true) = true then _ else _
      refine iteF ?_
      refine ⟨_, rfl, _, rfl, rfl, _, rfl, ?_⟩
      rw [show decide (V.str (shownF xs) = V.str (shownF xs)) = true from decide_eq_true rfl]
      refine iteF ?_
      refine ⟨_, rfl, _, rfl, _, _, dp_ints (SqL.of eh5), dp_ints (SqL.of e5), shaped_ints _, shaped_ints _, _, rfl, ?_⟩
      rw [eqv_ints, decide_eq_true rfl]
      refine iteF ?_
      refine ⟨_, rfl, _, rfl, D2, xs, rfl, SqL.of e5, by omega, fun p c np hc => ?_⟩
      refine ⟨p, _, _, rfl, upd_same, by omega, fun ys q pw mem hl nq => ?_⟩
      have s9 := (same_new (o := SetO w p (fun j => decide (j ∈ xs)) c) np).trans (same_new (o := .lst (ys.map V.int)) nq)
      have eq : (upd (upd H5 p (SetO w p (fun j => decide (j ∈ xs)) c)) q (.lst (ys.map V.int))) q = some (.lst (ys.map V.int)) := upd_same
      have e9 := s9 _ _ e5
      refine ⟨_, _, dp_ints (SqL.of e9), dp_ints (SqL.of eq), shaped_ints _, shaped_ints _, _, rfl, ?_⟩
      rw [eqv_ints]
      by_cases c9 : xs = ys
      · have ris : Ris xs := c9 ▸ pw
        rw [decide_eq_true c9]
        refine iteF ?_
        have rt := reads_shown few ris
        have bk := back_ints few.wr
        have sl : (shownF xs).length ≤ 1000000 := by
          unfold shownF
          split
          · decide +kernel
          · have := shown_len few.wr
            omega
        refine ⟨_, rfl, _, rfl, sl, _, rt, fun H6 g s6 ng eg => ?_⟩
        rw [bk] at eg
        have e10 := s6 _ _ e9
        refine ⟨_, rfl, _, rfl, g, D2, xs, rfl, SqL.of eg, SqL.of e10, by omega, _, rfl, ?_⟩
        show if (!true) = true then _ else _
        refine iteF ?_
        have gD : D2 ≠ g := ne_of_none e9 ng
        refine ⟨_, rfl, .inl ⟨rfl, _, SqL.of eg⟩, g, _, _, rfl, rfl, eg, by rw [List.length_map]; exact szl_lt (by omega), ?_⟩
        have e11 : (upd H6 g (.lst (xs.map V.int ++ [.int 1]))) D2 = some (.lst (xs.map V.int)) := by
          rw [upd_ne gD]
          exact e10
        refine ⟨_, rfl, _, rfl, sl, _, rt, fun H7 g2 s7 ng2 eg2 => ?_⟩
        rw [bk] at eg2
        exact ⟨_, rfl, g2, D2, xs, rfl, SqL.of eg2, SqL.of (s7 _ _ e11), by omega, kq _⟩
      · rw [decide_eq_false c9]
        refine iteT ?_
        exact kq _

end

theorem all_mk {l : PySem.W.OpenLaw} {w : World} {K : PySem.W.Frag} {h : Heap} {mg : Str → Option Value} {fa : Addr} (X : K.In h) (G : h.Ns mainGlobals mg) (hfa : mg "law" = some (.ref fa))
    {f0 : Addr} {od0 an0 : Option Addr} {sl0 : Array (Option Value)} {oc0 kV0 dc0 pm0 cd0 ct0 : Value}
    {f1 : Addr} {od1 an1 : Option Addr} {sl1 : Array (Option Value)} {oc1 kV1 dc1 pm1 cd1 ct1 : Value}
    {f2 : Addr} {od2 an2 : Option Addr} {sl2 : Array (Option Value)} {oc2 kV2 dc2 pm2 cd2 ct2 : Value}
    {f3 : Addr} {od3 an3 : Option Addr} {sl3 : Array (Option Value)} {oc3 kV3 dc3 pm3 cd3 ct3 : Value}
    {f4 : Addr} {od4 an4 : Option Addr} {sl4 : Array (Option Value)} {oc4 kV4 dc4 pm4 cd4 ct4 : Value}
    {f5 : Addr} {od5 an5 : Option Addr} {sl5 : Array (Option Value)} {oc5 kV5 dc5 pm5 cd5 ct5 : Value}
    {f6 : Addr} {od6 an6 : Option Addr} {sl6 : Array (Option Value)} {oc6 kV6 dc6 pm6 cd6 ct6 : Value}
    {f7 : Addr} {od7 an7 : Option Addr} {sl7 : Array (Option Value)} {oc7 kV7 dc7 pm7 cd7 ct7 : Value}
    {tk_FIGURES : Tok}
    {CShareError : Addr}
    {CBadText : Addr}
    {CNotRising : Addr}
    (a0 : PySem.W.nsIn K mainGlobals "shown" = some (some (.ref f0)))
    (l0 : K.lookup f0 = some ⟨oc0, od0, .func (PySem.W.fnOf "shown" "shown" (defArgs s_shown) (defBody s_shown) (defScope s_shown) .none kV0 dc0 pm0 an0 cd0 ct0), sl0⟩)
    (c0 : PySem.W.codeIn K cd0 "shown" = true)
    (k0 : PySem.W.keepIn K (.ref f0) = true)
    (a1 : PySem.W.nsIn K mainGlobals "share_of" = some (some (.ref f1)))
    (l1 : K.lookup f1 = some ⟨oc1, od1, .func (PySem.W.fnOf "share_of" "share_of" (defArgs s_share_of) (defBody s_share_of) (defScope s_share_of) .none kV1 dc1 pm1 an1 cd1 ct1), sl1⟩)
    (c1 : PySem.W.codeIn K cd1 "share_of" = true)
    (k1 : PySem.W.keepIn K (.ref f1) = true)
    (a2 : PySem.W.nsIn K mainGlobals "read" = some (some (.ref f2)))
    (l2 : K.lookup f2 = some ⟨oc2, od2, .func (PySem.W.fnOf "read" "read" (defArgs s_read) (defBody s_read) (defScope s_read) .none kV2 dc2 pm2 an2 cd2 ct2), sl2⟩)
    (c2 : PySem.W.codeIn K cd2 "read" = true)
    (k2 : PySem.W.keepIn K (.ref f2) = true)
    (a3 : PySem.W.nsIn K mainGlobals "_law_cell_at" = some (some (.ref f3)))
    (l3 : K.lookup f3 = some ⟨oc3, od3, .func (PySem.W.fnOf "_law_cell_at" "_law_cell_at" (defArgs s_law_cell_at) (defBody s_law_cell_at) (defScope s_law_cell_at) .none kV3 dc3 pm3 an3 cd3 ct3), sl3⟩)
    (c3 : PySem.W.codeIn K cd3 "_law_cell_at" = true)
    (k3 : PySem.W.keepIn K (.ref f3) = true)
    (a4 : PySem.W.nsIn K mainGlobals "_law_whole" = some (some (.ref f4)))
    (l4 : K.lookup f4 = some ⟨oc4, od4, .func (PySem.W.fnOf "_law_whole" "_law_whole" (defArgs s_law_whole) (defBody s_law_whole) (defScope s_law_whole) .none kV4 dc4 pm4 an4 cd4 ct4), sl4⟩)
    (c4 : PySem.W.codeIn K cd4 "_law_whole" = true)
    (k4 : PySem.W.keepIn K (.ref f4) = true)
    (a5 : PySem.W.nsIn K mainGlobals "_law_list" = some (some (.ref f5)))
    (l5 : K.lookup f5 = some ⟨oc5, od5, .func (PySem.W.fnOf "_law_list" "_law_list" (defArgs s_law_list) (defBody s_law_list) (defScope s_law_list) .none kV5 dc5 pm5 an5 cd5 ct5), sl5⟩)
    (c5 : PySem.W.codeIn K cd5 "_law_list" = true)
    (k5 : PySem.W.keepIn K (.ref f5) = true)
    (a6 : PySem.W.nsIn K mainGlobals "_law_share" = some (some (.ref f6)))
    (l6 : K.lookup f6 = some ⟨oc6, od6, .func (PySem.W.fnOf "_law_share" "_law_share" (defArgs s_law_share) (defBody s_law_share) (defScope s_law_share) .none kV6 dc6 pm6 an6 cd6 ct6), sl6⟩)
    (c6 : PySem.W.codeIn K cd6 "_law_share" = true)
    (k6 : PySem.W.keepIn K (.ref f6) = true)
    (a7 : PySem.W.nsIn K mainGlobals "law" = some (some (.ref f7)))
    (l7 : K.lookup f7 = some ⟨oc7, od7, .func (PySem.W.fnOf "law" "law" (defArgs s_law) (defBody s_law) (defScope s_law) .none kV7 dc7 pm7 an7 cd7 ct7), sl7⟩)
    (c7 : PySem.W.codeIn K cd7 "law" = true)
    (k7 : PySem.W.keepIn K (.ref f7) = true)
    (z0 : PySem.W.nsIn K mainGlobals "len" = some none)
    (z1 : PySem.W.nsIn K mainGlobals "range" = some none)
    (z2 : PySem.W.nsIn K mainGlobals "min" = some none)
    (z3 : PySem.W.nsIn K mainGlobals "max" = some none)
    (z4 : PySem.W.nsIn K mainGlobals "sum" = some none)
    (z5 : PySem.W.nsIn K mainGlobals "sorted" = some none)
    (z6 : PySem.W.nsIn K mainGlobals "set" = some none)
    (z7 : PySem.W.nsIn K mainGlobals "dict" = some none)
    (z8 : PySem.W.nsIn K mainGlobals "list" = some none)
    (z9 : PySem.W.nsIn K mainGlobals "str" = some none)
    (z10 : PySem.W.nsIn K mainGlobals "int" = some none)
    (z11 : PySem.W.nsIn K mainGlobals "isinstance" = some none)
    (z12 : PySem.W.nsIn K mainGlobals "bool" = some none)
    (z13 : PySem.W.nsIn K mainGlobals "tuple" = some none)
    (z14 : PySem.W.nsIn K mainGlobals "ValueError" = some none)
    (q_FIGURES : PySem.W.nsIn K mainGlobals "FIGURES" = some (some (.str "0123456789" tk_FIGURES)))
    (nShareError : PySem.W.nsIn K mainGlobals "ShareError" = some (some (.ref CShareError)))
    (e0ShareError : PySem.W.excIn K CShareError veT "ValueError.__new__" = true)
    (e1ShareError : PySem.W.keepIn K (.ref CShareError) = true)
    (e2ShareError : PySem.W.subIn K (.ref CShareError) (.type "BaseException") = some true)
    (e3ShareError : PySem.W.typeIn K (.ref CShareError) = some (.type "type"))
    (nBadText : PySem.W.nsIn K mainGlobals "BadText" = some (some (.ref CBadText)))
    (e0BadText : PySem.W.excIn K CBadText veT "ValueError.__new__" = true)
    (e1BadText : PySem.W.keepIn K (.ref CBadText) = true)
    (e2BadText : PySem.W.subIn K (.ref CBadText) (.type "BaseException") = some true)
    (e3BadText : PySem.W.typeIn K (.ref CBadText) = some (.type "type"))
    (nNotRising : PySem.W.nsIn K mainGlobals "NotRising" = some (some (.ref CNotRising)))
    (e0NotRising : PySem.W.excIn K CNotRising veT "ValueError.__new__" = true)
    (e1NotRising : PySem.W.keepIn K (.ref CNotRising) = true)
    (e2NotRising : PySem.W.subIn K (.ref CNotRising) (.type "BaseException") = some true)
    (e3NotRising : PySem.W.typeIn K (.ref CNotRising) = some (.type "type"))
    : ∃ fd : FuncData, (∀ (s : Shared) (v : Value), BindsTo s fd ⟨[v], []⟩ [("script", v)]) ∧ ∀ base : Heap, K.In base → base.Ns mainGlobals mg → FnOk l.prog w K mg base CX0 3 fa fd ["script"] (sp_law K) := by
  have ef := hfa.symm.trans (PySem.W.mg_of X G a7)
  cases ef
  have B : Bi mg := ⟨PySem.W.mg_none_of X G z0, PySem.W.mg_none_of X G z1, PySem.W.mg_none_of X G z2, PySem.W.mg_none_of X G z3, PySem.W.mg_none_of X G z4, PySem.W.mg_none_of X G z5, PySem.W.mg_none_of X G z6, PySem.W.mg_none_of X G z7, PySem.W.mg_none_of X G z8, PySem.W.mg_none_of X G z9, PySem.W.mg_none_of X G z10, PySem.W.mg_none_of X G z11, PySem.W.mg_none_of X G z12, PySem.W.mg_none_of X G z13, PySem.W.mg_none_of X G z14⟩
  have Er : ErrOk K mg ⟨CShareError, 0, 0, 0, CBadText, CNotRising⟩ := ⟨⟨PySem.W.mg_of X G nShareError, e0ShareError, e1ShareError, e2ShareError, e3ShareError⟩, ⟨PySem.W.mg_of X G nBadText, e0BadText, e1BadText, e2BadText, e3BadText⟩, ⟨PySem.W.mg_of X G nNotRising, e0NotRising, e1NotRising, e2NotRising, e3NotRising⟩⟩
  have S_shown : Stands K mg "shown" s_shown := ⟨_, _, fun_mk (st := s_shown) l0 c0 k0, PySem.W.mg_of X G a0⟩
  have S_share_of : Stands K mg "share_of" s_share_of := ⟨_, _, fun_mk (st := s_share_of) l1 c1 k1, PySem.W.mg_of X G a1⟩
  have S_read : Stands K mg "read" s_read := ⟨_, _, fun_mk (st := s_read) l2 c2 k2, PySem.W.mg_of X G a2⟩
  have S_law_cell_at : Stands K mg "_law_cell_at" s_law_cell_at := ⟨_, _, fun_mk (st := s_law_cell_at) l3 c3 k3, PySem.W.mg_of X G a3⟩
  have S_law_whole : Stands K mg "_law_whole" s_law_whole := ⟨_, _, fun_mk (st := s_law_whole) l4 c4 k4, PySem.W.mg_of X G a4⟩
  have S_law_list : Stands K mg "_law_list" s_law_list := ⟨_, _, fun_mk (st := s_law_list) l5 c5 k5, PySem.W.mg_of X G a5⟩
  have S_law_share : Stands K mg "_law_share" s_law_share := ⟨_, _, fun_mk (st := s_law_share) l6 c6 k6, PySem.W.mg_of X G a6⟩
  refine ⟨PySem.W.fnOf "law" "law" (defArgs s_law) (defBody s_law) (defScope s_law) .none kV7 dc7 pm7 an7 cd7 ct7, fun s v => .of_eq rfl, fun base _ _ => ?_⟩
  have O_shown := ok_shown (P := l.prog) (w := w) (base := base) S_shown B Er 
  have O_share_of := ok_share_of (P := l.prog) (w := w) (base := base) S_share_of B Er ⟨_, PySem.W.mg_of X G q_FIGURES⟩
  have O_read := ok_read (P := l.prog) (w := w) (base := base) S_read B Er O_share_of
  have O_law_cell_at := ok_law_cell_at (P := l.prog) (w := w) (base := base) S_law_cell_at B Er 
  have O_law_whole := ok_law_whole (P := l.prog) (w := w) (base := base) S_law_whole B Er 
  have O_law_list := ok_law_list (P := l.prog) (w := w) (base := base) S_law_list B Er O_law_whole
  have O_law_share := ok_law_share (P := l.prog) (w := w) (base := base) S_law_share B Er 
  exact ok_law (P := l.prog) (w := w) (base := base) (fun_mk (st := s_law) l7 c7 k7) B Er O_shown O_read O_law_list O_law_share O_law_cell_at
end U
open PySem PySem.W PyProof.Rows
set_option maxHeartbeats 0 in
theorem PySem.Challenge.cw_unitshares_k13_written_holds : PySem.Challenge.rw_unitshares_k13_written.Holds := by
  w_on; o_law; k_head; (case hw => w_witness2)
  k_fill
  refine L2.walk_of (l := PySem.Challenge.rw_unitshares_k13_written) (n := 63) (k := 3) (x := "script") (CX := fun _ => L2.CX0) (sp := fun w => U.sp_law _) rfl (by decide) rfl ⟨rfl, by decide, by decide⟩ (fun w h Y => PySem.W.kIn_of Y) ?F (fun _ _ a ns hl _ hS => ⟨a, ns, rfl, hS, hl, fun _ => rfl⟩) (fun _ _ _ _ _ h => h)
  case F =>
    intro w mg fa h KX G hmg
    refine' U.all_mk KX G hmg ?a0 ?l0 ?c0 ?k0 ?a1 ?l1 ?c1 ?k1 ?a2 ?l2 ?c2 ?k2 ?a3 ?l3 ?c3 ?k3 ?a4 ?l4 ?c4 ?k4 ?a5 ?l5 ?c5 ?k5 ?a6 ?l6 ?c6 ?k6 ?a7 ?l7 ?c7 ?k7 ?z0 ?z1 ?z2 ?z3 ?z4 ?z5 ?z6 ?z7 ?z8 ?z9 ?z10 ?z11 ?z12 ?z13 ?z14 ?q_FIGURES ?nShareError ?e0ShareError ?e1ShareError ?e2ShareError ?e3ShareError ?nBadText ?e0BadText ?e1BadText ?e2BadText ?e3BadText ?nNotRising ?e0NotRising ?e1NotRising ?e2NotRising ?e3NotRising
    (case a0 => k_is)
    (case l0 => k_is)
    (case c0 => k_is)
    (case k0 => k_is)
    (case a1 => k_is)
    (case l1 => k_is)
    (case c1 => k_is)
    (case k1 => k_is)
    (case a2 => k_is)
    (case l2 => k_is)
    (case c2 => k_is)
    (case k2 => k_is)
    (case a3 => k_is)
    (case l3 => k_is)
    (case c3 => k_is)
    (case k3 => k_is)
    (case a4 => k_is)
    (case l4 => k_is)
    (case c4 => k_is)
    (case k4 => k_is)
    (case a5 => k_is)
    (case l5 => k_is)
    (case c5 => k_is)
    (case k5 => k_is)
    (case a6 => k_is)
    (case l6 => k_is)
    (case c6 => k_is)
    (case k6 => k_is)
    (case a7 => k_is)
    (case l7 => k_is)
    (case c7 => k_is)
    (case k7 => k_is)
    (case z0 => k_is)
    (case z1 => k_is)
    (case z2 => k_is)
    (case z3 => k_is)
    (case z4 => k_is)
    (case z5 => k_is)
    (case z6 => k_is)
    (case z7 => k_is)
    (case z8 => k_is)
    (case z9 => k_is)
    (case z10 => k_is)
    (case z11 => k_is)
    (case z12 => k_is)
    (case z13 => k_is)
    (case z14 => k_is)
    (case q_FIGURES => k_is)
    (case nShareError => k_is)
    (case e0ShareError => k_exc)
    (case e1ShareError => k_is)
    (case e2ShareError => k_is)
    (case e3ShareError => k_is)
    (case nBadText => k_is)
    (case e0BadText => k_exc)
    (case e1BadText => k_is)
    (case e2BadText => k_is)
    (case e3BadText => k_is)
    (case nNotRising => k_is)
    (case e0NotRising => k_exc)
    (case e1NotRising => k_is)
    (case e2NotRising => k_is)
    (case e3NotRising => k_is)
