import PyProof.Rows.All
import Wide.All
import OpenK.AllK
import Wide.FinOn
import HandS.ForMost
import HandS.ForExc
import HandS.More
import HandS.Wide
import HandS.WideBits
import HandS.IsInst
import HandS.SortInts
import HandS.SetFor
import HandS.Strs
import HandS.Zip

import PySem.Challenge.RW_unitshares_k09_whole_lacks
set_option Elab.async false
set_option linter.all false
set_option maxRecDepth 100000
set_option maxHeartbeats 4000000
namespace U
open PySem PySem.Spec PyProof.Rows L2
def topS (i : Nat) : Stmt := PySem.Challenge.pw_unitshares_k09_whole_lacks.main.body.getD i (.Pass ⟨0, 0, 0, 0⟩)
/-! ### how a def, a class, a built-in stand -/
/-- the module's name x holds the def st -/
def Stands (K : PySem.W.Frag) (mg : Str → Option Value) (x : Str) (st : Stmt) : Prop := ∃ f fd, Fun K x x st f fd ∧ mg x = some (.ref f)
/-- the def x keeps the promise sp -/
def Keeps (P : Program) (w : World) (K : PySem.W.Frag) (mg : Str → Option Value) (base : Heap) (k : Nat) (x : Str) (ps : List Str) (sp : Sp) : Prop :=
  ∃ f fd, FnOk P w K mg base (L2.CX P w) k f fd ps sp ∧ Binds K fd ps [] ∧ mg x = some (.ref f) ∧ PySem.W.keepIn K (.ref f) = true
/-- nothing leaves, so whatever leaves is as one likes -/
theorem toX {P : Program} {w : World} {K : PySem.W.Frag} {mg : Str → Option Value} {base : Heap} {k : Nat} {f : Addr} {fd : FuncData} {ps : List Str} {sp : Sp} (F : FnOk P w K mg base CX0 k f fd ps sp) : FnOk P w K mg base (L2.CX P w) k f fd ps sp :=
  ⟨F.len, fun A outer s H args us vs Q E hr e0 hb r h => codeAny_mono (F.run A outer s H args us vs Q E hr e0 hb r h) fun r s' q => by
    cases r with
    | error e => exact False.elim q
    | ok fl => cases fl <;> exact q⟩
structure Bi (mg : Str → Option Value) : Prop where
  len : mg "len" = none
  range : mg "range" = none
  min : mg "min" = none
  max : mg "max" = none
  sum : mg "sum" = none
  sorted : mg "sorted" = none
  set : mg "set" = none
  dict : mg "dict" = none
  list : mg "list" = none
  str : mg "str" = none
  int : mg "int" = none
  isinstance : mg "isinstance" = none
  bool : mg "bool" = none
  tuple : mg "tuple" = none
  ValueError : mg "ValueError" = none
abbrev veT : List Value := [.type "ValueError", .type "Exception", .type "BaseException", .type "object"]
/-! ### heaps -/
theorem same_new {H : Hp} {p : Addr} {o : HO} (h : H p = none) : Same H (upd H p o) := fun b x e => by
  rw [upd_ne (ne_of_none e h)]
  exact e
/-- an object that H does not know is written -/
theorem same_mut {H H' : Hp} {p : Addr} {o : HO} (s : Same H H') (h : H p = none) : Same H (upd H' p o) := fun b x e => by
  rw [upd_ne (ne_of_none e h)]
  exact s b x e
theorem same_tup {K : PySem.W.Frag} {H H' : Hp} {a : Addr} {xs : List V} (e : Same H H') (h : SqT K H a xs) : SqT K H' a xs := by
  rcases h with (h | ⟨o, h⟩) | h
  · exact .inl (.inl (e _ _ h))
  · exact .inl (.inr ⟨o, e _ _ h⟩)
  · exact .inr h
theorem ty_list {K : PySem.W.Frag} {H : Hp} {a : Addr} {xs : List V} (h : SqL K H a xs) : TyX K H (.ref a) (.type "list") := by
  rcases h with (h | ⟨o, h⟩) | ⟨o, _, _, h, c, _⟩
  · exact .base (.lst h)
  · exact .base (.frz h)
  · exact .kList h c
theorem ty_tup {K : PySem.W.Frag} {H : Hp} {a : Addr} {xs : List V} (h : SqT K H a xs) : TyX K H (.ref a) (.type "tuple") := by
  rcases h with (h | ⟨o, h⟩) | ⟨o, _, _, h, c, _⟩
  · exact .base (.tup h)
  · exact .fTuple h
  · exact .kTuple h c
theorem szl {n : Nat} (h : n ≤ 16000000) : n ≤ sizeLine := Nat.le_trans h (by decide)
theorem szl_lt {n : Nat} (h : n < 16000000) : n < sizeLine := Nat.lt_of_lt_of_le h (by decide)
theorem get_map {α β : Type} {f : α → β} {l : List α} {i : Nat} {x : α} (h : l[i]? = some x) : (l.map f)[i]? = some (f x) := by
  rw [List.getElem?_map, h] <;> rfl
theorem of_get_map {α β : Type} {f : α → β} {l : List α} {i : Nat} {y : β} (h : (l.map f)[i]? = some y) : ∃ x, l[i]? = some x ∧ y = f x := by
  rw [List.getElem?_map] at h
  cases e : l[i]? with
  | none => rw [e] at h; cases h
  | some x => rw [e] at h; exact ⟨x, rfl, (Option.some.inj h).symm⟩
theorem take_snoc {α : Type} {l : List α} {i : Nat} {x : α} (h : l[i]? = some x) : l.take (i + 1) = l.take i ++ [x] := by
  rw [List.take_add_one, h] <;> rfl
theorem lt_of_get {α : Type} {l : List α} {i : Nat} {x : α} (h : l[i]? = some x) : i < l.length := (List.getElem?_eq_some_iff.mp h).1
/-- 1, 2, .., n -/
def upto (n : Nat) : List Int := (List.range n).map fun (i : Nat) => 1 + (i : Int)
theorem upto_succ (n : Nat) : upto (n + 1) = upto n ++ [1 + (n : Int)] := by
  unfold upto
  rw [List.range_succ, List.map_append] <;> rfl
theorem upto_length (n : Nat) : (upto n).length = n := by
  unfold upto
  rw [List.length_map, List.length_range]
theorem mem_upto {n : Nat} {x : Int} : x ∈ upto n ↔ 1 ≤ x ∧ x ≤ n := by
  unfold upto
  rw [List.mem_map]
  constructor
  · rintro ⟨i, hi, rfl⟩
    have := List.mem_range.mp hi
    omega
  · rintro ⟨h1, h2⟩
    exact ⟨(x - 1).toNat, List.mem_range.mpr (by omega), by omega⟩
theorem cw_mul {i j : Int} {a b : Nat} (ha : i.natAbs < 2 ^ a) (hb : j.natAbs < 2 ^ b) (h0 : 0 < a := by decide) (h1 : 0 < b := by decide) (h : a + b ≤ 1000000 := by decide) : CMulW i j := wide_mul ha hb h0 h1 h
/-- // by a positive divisor, where it is told that C divides by itself -/
theorem op_fdivP {X : Cx} : OpR X (binaryOp .FloorDiv) (rI CDivP fun i j => .int (i / j)) := opI fun i j _ _ _ _ _ hc q => by
  have h1 : (0 : Int) < j := hc.1
  exact floordiv_int (by omega) (by rw [Int.fdiv_eq_ediv_of_nonneg i (by omega)]; exact q) (.inl hc.2)
theorem cdp_of {i j : Int} (h : CDivW i j) : CDivP i j := ⟨h.1, PyProof.noPylong_of_log2 h.2⟩
theorem cw_div {i j : Int} {b : Nat} (h : 0 < j) (hb : j.natAbs < 2 ^ b) (h0 : 0 < b := by decide) (h9 : b ≤ 9000 := by decide) : CDivP i j := cdp_of (wide_div h hb h0 h9)
theorem fil_yes {α : Type} {q : α → Prop} [DecidablePred q] {l : List α} {x : α} (h : q x) : (l ++ [x]).filter (fun k => decide (q k)) = l.filter (fun k => decide (q k)) ++ [x] := by
  rw [List.filter_append]
  congr 1
  simp [h]
theorem fil_no {α : Type} {q : α → Prop} [DecidablePred q] {l : List α} {x : α} (h : ¬ q x) : (l ++ [x]).filter (fun k => decide (q k)) = l.filter (fun k => decide (q k)) := by
  rw [List.filter_append]
  simp [h]
/-- what holds behind a statement, its ways joined -/
theorem cut {t R : TS} {D : Ends} {σ : L2.St} {H : Hp} (Pm : L2.St → Hp → Prop) (h1 : ∀ (R : TS) (D : Ends), (∀ σ' H', Pm σ' H' → R D σ' H') → tSeq t R D σ H) (h2 : ∀ σ' H', Pm σ' H' → R D σ' H') : tSeq t R D σ H := h1 R D h2
theorem snoc_ind {α : Type} (P : List α → Prop) (l : List α) (h0 : P []) (hs : ∀ l x, P l → P (l ++ [x])) : P l := by
  have : ∀ r : List α, P r.reverse := fun r => by
    induction r with
    | nil => exact h0
    | cons x r ih =>
      rw [List.reverse_cons]
      exact hs _ _ ih
  have := this l.reverse
  rwa [List.reverse_reverse] at this

/-- the numbers up to n that divide n -/
def divs (n : Nat) : List Int := (upto n).filter fun k => decide ((n : Int) % k = 0)
theorem divs_len (n : Nat) : (divs n).length ≤ n := by
  have := List.length_filter_le (fun k => decide ((n : Int) % k = 0)) (upto n)
  rw [upto_length] at this
  exact this
theorem mem_divs {n : Nat} {x : Int} : x ∈ divs n ↔ (1 ≤ x ∧ x ≤ n) ∧ (n : Int) % x = 0 := by
  unfold divs
  rw [List.mem_filter, mem_upto, decide_eq_true_eq]

/-! ### set(xs) of a list of ints -/
section
variable {P : Program} {w : World} {A : Around} {E : Value → Shared → Prop}
/-- a set that was just made -/
abbrev bare (w : World) : Obj := { cls := .type "set", dict := none, data := .set #[] 0 (.fresh 0 0 (!w.params.followText "set-order")) }
/-- what set.__init__ leaves of s, the set at a: it holds the ints, all of g is kept -/
def Filled (w : World) (s : Shared) (g : Heap) (a : Addr) (ns : List Int) (v : Value) (s' : Shared) : Prop :=
  v = .none ∧ ∃ h tk c, s' = { s with heap := h, toks := tk } ∧ SetR w h a (fun j => decide (j ∈ ns)) c ∧ c ≤ ns.length ∧ ∀ b o, g.get? b = some o → h.get? b = some o
/-- the filling, over the list's own iterator -/
theorem fill_list {g : Heap} {s : Shared} {l : Addr} {its : Array Value} {ns : List Int} (hs : s.heap = (g.push (bare w)).push { cls := .type "list_iterator", data := .fields #[.ref l, .int 0 0] }) (hh : A.handled = none)
    (hl : g.IsList l its) (hi : IntsAre its.toList ns) (hn : its.size = ns.length) (hb : ns.length + 1 < scanBound) {R : Result → Shared → Prop} (hr : ∀ s', Filled w s g g.objs.size ns .none s' → R (.ok (.ret .none)) s') :
    codeAny (model P w) A (.builtin "set.update.loop" ⟨[.ref g.objs.size, .ref (g.objs.size + 1)], []⟩) R s := by
  have lt : l < g.objs.size := by
    obtain ⟨o, e, _⟩ := hl
    exact Heap.lt_size e
  have z1 : (g.push (bare w)).objs.size = g.objs.size + 1 := Heap.size_push ..
  have a0 : (g.push (bare w)).get? g.objs.size = some (bare w) := Heap.get?_push_size _ rfl
  have apart : g.objs.size ∉ [g.objs.size + 1, l] := by
    intro m
    rcases List.mem_cons.mp m with e | m
    · exact Nat.ne_of_lt (Nat.lt_succ_self _) e
    · exact Nat.ne_of_gt lt (List.mem_singleton.mp m)
  have val : ∀ (i : Nat) (v : Value), its[i]? = some v → ∃ k t, ns[i]? = some k ∧ v = .int k t := fun i v e => by
    have hi' : i < ns.length := hn ▸ (Array.getElem?_eq_some_iff.mp e).1
    obtain ⟨t, q⟩ := IntsAre.int_at hi i v (by rw [Array.getElem?_toList]; exact e)
    have d : ns.getD i 0 = ns[i] := by rw [List.getD_eq_getElem?_getD, List.getElem?_eq_getElem hi'] <;> rfl
    exact ⟨ns[i], t, List.getElem?_eq_getElem hi', by rw [q, d]⟩
  have hh1 : A.in1.handled = none := hh
  have hl1 : (g.push (bare w)).IsList l its := hl.push _
  obtain ⟨hp, gg, d, tk, os⟩ := s
  have hs : hp = (g.push (bare w)).push { cls := .type "list_iterator", data := .fields #[.ref l, .int 0 0] } := hs
  subst hs
  have W := (Walks.list (prog := P) (w := w) hh1 (g.objs.size + 1) l (Nat.ne_of_lt (Nat.lt_succ_of_lt lt)) its).toS
  refine set_update_ints W g.objs.size apart ns hn hb val (its.size - 0) 0 _ (by omega) (Nat.zero_le _) ?_ ⟨0, Nat.le_refl 0, setR_new_at (Heap.get?_push_of_some _ a0)⟩ fun s' c m hc hR => ?_
  · exact ⟨⟨_, by rw [← z1]; exact Heap.get?_push_size _ rfl, rfl, rfl⟩, hl1.push _⟩
  · obtain ⟨h', g2, d2, tk2, os2⟩ := s'
    cases (m.gens : g2 = gg)
    cases (m.drawn : d2 = d)
    cases (m.os : os2 = os)
    refine hr _ ⟨rfl, h', tk2, c, rfl, hR, hn ▸ hc, fun b o e => ?_⟩
    have hb' := Heap.lt_size e
    refine m.heap b o (fun z => ?_) (Heap.get?_push_of_some _ (Heap.get?_push_of_some _ e))
    rcases List.mem_cons.mp z with z | z
    · exact Nat.ne_of_lt hb' z
    · exact Nat.ne_of_lt (Nat.lt_succ_of_lt hb') (List.mem_singleton.mp z)
set_option maxHeartbeats 3200000 in
theorem init_list {g : Heap} {s : Shared} {l : Addr} {its : Array Value} {ns : List Int} (hs : s.heap = g.push (bare w)) (hh : A.handled = none) (hl : g.IsList l its) (hi : IntsAre its.toList ns) (hn : its.size = ns.length) (hb : ns.length + 1 < scanBound) :
    codeAny (model P w) A (.call (.builtin "set.__init__") ⟨[.ref g.objs.size, .ref l], []⟩) (wants (Filled w s g g.objs.size ns) E) s := by
  have here : s.heap.get? g.objs.size = some (bare w) := by
    rw [hs]
    exact Heap.get?_push_size _ rfl
  have ty : s.TypeIs (.ref g.objs.size) "set" := ⟨_, here, rfl⟩
  have hl1 : s.heap.IsList l its := by
    rw [hs]
    exact hl.push _
  refine codeAny_call_builtin F.called_set.init.plain F.entry_set_init (check_set_init_1 ty ?_)
  obtain ⟨ol, gl, cl, nl, dl⟩ := id hl1
  obtain ⟨ocls, odict, odata, oslots⟩ := ol
  simp only at cl dl
  subst cl dl
  have n1 := F.sub_list_set
  have n2 := F.sub_list_frozenset
  have n3 : (Value.type "list" == Value.type "dict") = false := by decide
  obtain ⟨hp, gg, d, tk, os⟩ := s
  dsimp only at hs here gl hl1 ty
  subst hs
  unfold Builtin.«set.__init__» noKeywords Builtin.Frozenset.updateFrom
  generalize eI : pyIter = it
  wp_walk
  subst eI
  refine wpAny_pyIter_list hl1 ?_
  refine wpAny_bind (wpAny_runValue ?_)
  have z1 : (g.push (bare w)).objs.size = g.objs.size + 1 := Heap.size_push ..
  rw [z1]
  refine fill_list (g := g) rfl (by simpa using hh) hl hi hn hb fun s' f => ?_
  obtain ⟨_, h', tk', c, rfl, r⟩ := f
  show wpAny _ _ _ _ _ _
  refine wpAny_pure ?_
  show wpAny _ _ (ret Value.none) _ _ _
  exact wpAny_pure ⟨rfl, h', tk', c, rfl, r⟩
set_option maxHeartbeats 3200000 in
theorem set_of_list {s : Shared} {l : Addr} {its : Array Value} {ns : List Int} (hh : A.handled = none) (hl : s.heap.IsList l its) (hi : IntsAre its.toList ns) (hb : ns.length + 1 < scanBound) {Q : Value → Shared → Prop}
    (hq : ∀ (h : Heap) (tk c : Nat), SetR w h s.heap.objs.size (fun j => decide (j ∈ ns)) c → c ≤ ns.length → (∀ b o, s.heap.get? b = some o → h.get? b = some o) → Q (.ref s.heap.objs.size) { s with heap := h, toks := tk }) :
    wpAny (model P w) A (call (.type "set") [.ref l]) Q E s := by
  have hn : its.size = ns.length := by
    have q := IntsAre.length hi
    rwa [Array.length_toList] at q
  obtain ⟨c, tl, hmro⟩ := F.called_set.mro
  have f1 := F.called_set.made
  have f2 := F.called_set.sub
  have f3 := F.called_set.notType
  have f4 := F.called_set.canCreate
  have f5 := F.typeCall_set_1 (.ref l)
  refine wpAny_call (codeAny_of_tree ?_)
  show wpAny _ _ (callAny (.type "set") _) _ _ _
  refine wpAny_pure ⟨Code.quiet_builtin _ (by decide +kernel), codeAny_builtin F.entry_type_call ?_⟩
  rw [Around.under_plain (weight_type_call_type "set" [.ref l] []) rfl]
  repeat (any_goals (first | assumption | wp_step))
  refine codeAny_mono (code_set_led1 (w := w) (.ref l) (E := E) (Q₁ := fun u s₁ => u = .ref s.heap.objs.size ∧ s₁ = { s with heap := s.heap.push (bare w) }) ⟨rfl, rfl⟩) fun r s₁ hr => ?_
  cases r with
  | error e => exact hr
  | ok fl =>
    cases fl with
    | ret u =>
      obtain ⟨rfl, rfl⟩ := hr
      have here : (s.heap.push (bare w)).get? s.heap.objs.size = some (bare w) := Heap.get?_push_size _ rfl
      have ty : Shared.TypeIs { s with heap := s.heap.push (bare w) } (.ref s.heap.objs.size) "set" := ⟨_, here, rfl⟩
      have g1 := F.called_set.init.lookup
      have g2 := F.called_set.init.bind (.ref s.heap.objs.size)
      repeat (any_goals (first | assumption | wp_step))
      refine codeAny_mono (init_list (s := { s with heap := s.heap.push (bare w) }) rfl hh hl hi hn hb (E := E)) fun r₂ s₂ h₂ => ?_
      cases r₂ with
      | error e => exact h₂
      | ok f2 =>
        cases f2 with
        | ret v =>
          obtain ⟨rfl, h', tk', c', rfl, hR, hc, hk⟩ := h₂
          repeat (any_goals (first | assumption | wp_step))
          exact hq _ _ _ hR hc hk
        | next => exact h₂.elim
        | brk => exact h₂.elim
        | cont => exact h₂.elim
    | next => exact hr.elim
    | brk => exact hr.elim
    | cont => exact hr.elim
end
/-- set(xs) -/
def rSetL (K : PySem.W.Frag) (w : World) : List V → Hp → VK → Prop := fun vs H Q => ∃ (l : Addr) (ns : List Int), vs = [V.ref l] ∧ SqL K H l (ns.map V.int) ∧ ns.length < 4000 ∧
  ∀ (p : Addr) (c : Nat), H p = none → c ≤ ns.length → Q (.ref p) (upd H p (SetO w p (fun j => decide (j ∈ ns)) c))
theorem cr_setL {X : Cx} (hc : X.calm = true) : CallR X (.type "set") (rSetL X.K X.w) := by
  intro pins s σ H vs us Q I r h
  obtain ⟨l, ns, rfl, hS, hn, q⟩ := h
  obtain ⟨u, rfl, ru⟩ := vals1 r
  cases ru
  obtain ⟨its, rv, pl, hz⟩ := I.list hS
  refine set_of_list (I.ok.hd hc) pl.isList (ns := ns) (by simpa using RZ.intsAre_vals rv) (by unfold scanBound; omega) fun h tk c hR hc' hk => ?_
  exact ⟨.ref _, _, I.laid (t' := tk) (a := s.heap.objs.size) hk (Nat.le_refl _) (setO_new hR), rfl, q _ c (I.hok.fresh (Nat.le_refl _)) hc'⟩

/-! ### pairs of ints, compared -/
theorem dp_pair {K : PySem.W.Frag} {H : Hp} {a : Addr} {t u : Int} (h : SqT K H a [.int t, .int u]) : Dp K H (.ref a) (.tuple [.int t, .int u]) := .tup h (.cons (.int t) (.cons (.int u) .nil))
theorem eqv_pair (t u t' u' : Int) : PyData.eqv (.tuple [.int t, .int u]) (.tuple [.int t', .int u']) = decide (t = t' ∧ u = u') := by
  simp [PyData.eqv, PyData.eqvAll, Bool.decide_and]
  rfl

--: math = setlist
--: math = pairs
/-! ### lists that rise -/
def Ris (xs : List Int) : Prop := xs.Pairwise (· < ·)
instance (xs : List Int) : Decidable (Ris xs) := inferInstanceAs (Decidable (xs.Pairwise _))
theorem ris_uniq : ∀ {a b : List Int}, Ris a → Ris b → (∀ k, k ∈ a ↔ k ∈ b) → a = b
  | [], [], _, _, _ => rfl
  | [], y :: b, _, _, h => absurd ((h y).mpr List.mem_cons_self) (by simp)
  | x :: a, [], _, _, h => absurd ((h x).mp List.mem_cons_self) (by simp)
  | x :: a, y :: b, ha, hb, h => by
    obtain ⟨a1, a2⟩ := List.pairwise_cons.mp ha
    obtain ⟨b1, b2⟩ := List.pairwise_cons.mp hb
    have e : x = y := by
      rcases List.mem_cons.mp ((h x).mp List.mem_cons_self) with e | m
      · exact e
      · rcases List.mem_cons.mp ((h y).mpr List.mem_cons_self) with e | m'
        · exact e.symm
        · have := b1 x m
          have := a1 y m'
          omega
    subst e
    refine congrArg (x :: ·) (ris_uniq a2 b2 fun k => ⟨fun m => ?_, fun m => ?_⟩)
    · rcases List.mem_cons.mp ((h k).mp (List.mem_cons_of_mem _ m)) with e | m'
      · have := a1 k m
        omega
      · exact m'
    · rcases List.mem_cons.mp ((h k).mpr (List.mem_cons_of_mem _ m)) with e | m'
      · have := b1 k m
        omega
      · exact m'
theorem ris_adj {xs : List Int} (h : ∀ (j : Nat) (x y : Int), xs[j]? = some x → xs[j + 1]? = some y → x < y) : Ris xs := by
  refine List.pairwise_iff_getElem.mpr fun i j hi hj hij => ?_
  obtain ⟨d, rfl⟩ : ∃ d, j = i + 1 + d := ⟨j - (i + 1), by omega⟩
  induction d with
  | zero => exact h i _ _ (List.getElem?_eq_getElem hi) (List.getElem?_eq_getElem hj)
  | succ d ih =>
    have h1 := ih (by omega) (by omega)
    have h2 := h (i + 1 + d) _ _ (List.getElem?_eq_getElem (by omega)) (List.getElem?_eq_getElem hj)
    omega
theorem ris_at {xs : List Int} (h : Ris xs) {j : Nat} {x y : Int} (e1 : xs[j]? = some x) (e2 : xs[j + 1]? = some y) : x < y := by
  obtain ⟨h1, rfl⟩ := List.getElem?_eq_some_iff.mp e1
  obtain ⟨h2, rfl⟩ := List.getElem?_eq_some_iff.mp e2
  exact List.pairwise_iff_getElem.mp h j (j + 1) h1 h2 (by omega)
/-! ### data of ints, compared -/
theorem dp_ints {K : PySem.W.Frag} {H : Hp} {a : Addr} {xs : List Int} (h : SqL K H a (xs.map V.int)) : Dp K H (.ref a) (.list (xs.map PyData.int)) := by
  refine .lst h ?_
  clear h
  induction xs with
  | nil => exact .nil
  | cons x xs ih => exact .cons (.int x) ih
theorem eqvAll_ints : ∀ xs ys : List Int, PyData.eqvAll (xs.map PyData.int) (ys.map PyData.int) = decide (xs = ys)
  | [], [] => by simp [PyData.eqvAll]
  | [], y :: ys => by simp [PyData.eqvAll]
  | x :: xs, [] => by simp [PyData.eqvAll]
  | x :: xs, y :: ys => by
    have ih := eqvAll_ints xs ys
    simp only [List.map_cons, PyData.eqvAll, PyData.eqv, ih]
    rw [Bool.eq_iff_iff]
    simp
theorem eqv_ints (xs ys : List Int) : PyData.eqv (.list (xs.map PyData.int)) (.list (ys.map PyData.int)) = decide (xs = ys) := by
  rw [← eqvAll_ints]
  simp only [PyData.eqv]
theorem canLay_ints : ∀ xs : List Int, PyData.canLayAll0 (xs.map PyData.int) = true
  | [] => rfl
  | x :: xs => by
    simp only [List.map_cons, PyData.canLayAll0, PyData.canLay0, canLay_ints xs]
    rfl
theorem depth_ints : ∀ xs : List Int, PyData.depthAll (xs.map PyData.int) = 0
  | [] => rfl
  | x :: xs => by
    simp only [List.map_cons, PyData.depthAll, PyData.depth, depth_ints xs]
    rfl
theorem shaped_ints (xs : List Int) : SeqAt.shaped (.list (xs.map PyData.int)) = true := by
  unfold SeqAt.shaped
  simp only [PyData.canLay0, PyData.depth, canLay_ints, depth_ints]
  rfl

--: math = divs
--: math = ris
/-! ### which sums a row has -/
/-- a dict whose keys are these, each with True -/
def kvI (ks : List Int) : List (L2.Key × V) := ks.map fun k => (Sum.inl k, .bl true)
def putI (ks : List Int) (x : Int) : List Int := if x ∈ ks then ks else ks ++ [x]
theorem any_kv (x : Int) : ∀ ks : List Int, ((kvI ks).any fun kv => decide (kv.1 = (Sum.inl x : L2.Key))) = decide (x ∈ ks)
  | [] => by simp [kvI]
  | y :: ks => by
    have ih := any_kv x ks
    unfold kvI at ih ⊢
    rw [List.map_cons, List.any_cons, ih, Bool.eq_iff_iff, Bool.or_eq_true, decide_eq_true_eq, decide_eq_true_eq, decide_eq_true_eq, List.mem_cons]
    exact or_congr ⟨fun z => (Sum.inl.inj z).symm, fun z => congrArg Sum.inl z.symm⟩ Iff.rfl
theorem val_kv (ks : List Int) (x : Int) : (valV (kvI ks) (Sum.inl x : L2.Key)).isSome = decide (x ∈ ks) := by
  rw [← valV_any, any_kv]
theorem put_kv (ks : List Int) (x : Int) : putK (kvI ks) (Sum.inl x : L2.Key) (.bl true) = kvI (putI ks x) := by
  unfold putK putI
  rw [any_kv]
  by_cases h : x ∈ ks
  · rw [if_pos (decide_eq_true h), if_pos h]
    unfold kvI
    rw [List.map_map]
    refine List.map_congr_left fun y _ => ?_
    show (if (Sum.inl y : L2.Key) = Sum.inl x then _ else _) = _
    split <;> rfl
  · rw [if_neg (by simpa using h), if_neg h]
    unfold kvI
    rw [List.map_append] <;> rfl
theorem kvI_len (ks : List Int) : (kvI ks).length = ks.length := List.length_map _
theorem kvI_keys (ks : List Int) : ((kvI ks).map fun kv => kV kv.1) = ks.map V.int := by
  unfold kvI
  rw [List.map_map] <;> rfl
theorem mem_putI {ks : List Int} {x y : Int} : y ∈ putI ks x ↔ y ∈ ks ∨ y = x := by
  unfold putI
  split
  · constructor
    · exact .inl
    · rintro (h | rfl) <;> assumption
  · simp
/-- to ks each t + n, t of src, where p allows it -/
def addP (p : Int → Bool) (n : Int) (ks src : List Int) : List Int := src.foldl (fun m t => if p (t + n) = true then putI m (t + n) else m) ks
theorem addP_snoc (p : Int → Bool) (n : Int) (ks src : List Int) (t : Int) : addP p n ks (src ++ [t]) = if p (t + n) = true then putI (addP p n ks src) (t + n) else addP p n ks src := by
  unfold addP
  rw [List.foldl_append] <;> rfl
theorem mem_addP {p : Int → Bool} {n x : Int} {ks : List Int} (src : List Int) : x ∈ addP p n ks src ↔ x ∈ ks ∨ (p x = true ∧ x - n ∈ src) := by
  refine snoc_ind (fun src => x ∈ addP p n ks src ↔ x ∈ ks ∨ (p x = true ∧ x - n ∈ src)) src ?_ (fun l t ih => ?_)
  · show x ∈ ks ↔ _
    simp
  · rw [addP_snoc]
    by_cases h : p (t + n) = true
    · rw [if_pos h, mem_putI, ih, List.mem_append, List.mem_singleton]
      constructor
      · rintro ((a | ⟨a, b⟩) | rfl)
        · exact .inl a
        · exact .inr ⟨a, .inl b⟩
        · exact .inr ⟨h, .inr (by omega)⟩
      · rintro (a | ⟨a, b | b⟩)
        · exact .inl (.inl a)
        · exact .inl (.inr ⟨a, b⟩)
        · exact .inr (by omega)
    · rw [if_neg h, ih, List.mem_append, List.mem_singleton]
      constructor
      · rintro (a | ⟨a, b⟩)
        · exact .inl a
        · exact .inr ⟨a, .inl b⟩
      · rintro (a | ⟨a, b | b⟩)
        · exact .inl a
        · exact .inr ⟨a, b⟩
        · have e : x = t + n := by omega
          rw [e] at a
          exact absurd a h
/-- the sums of the first k of a row, those that p allows -/
def tabs (p : Int → Bool) (row : List Int) : Nat → List Int
  | 0 => [0]
  | k + 1 => match row[k]? with
    | some n => addP p n (tabs p row k) (tabs p row k)
    | none => tabs p row k
theorem tabs_at {p : Int → Bool} {row : List Int} {k : Nat} {n : Int} (h : row[k]? = some n) : tabs p row (k + 1) = addP p n (tabs p row k) (tabs p row k) := by
  show (match row[k]? with | some n => addP p n (tabs p row k) (tabs p row k) | none => tabs p row k) = _
  rw [h]
theorem tabs_no {p : Int → Bool} {row : List Int} {k : Nat} (h : row[k]? = none) : tabs p row (k + 1) = tabs p row k := by
  show (match row[k]? with | some n => addP p n (tabs p row k) (tabs p row k) | none => tabs p row k) = _
  rw [h]
theorem nodup_putI {ks : List Int} {x : Int} (h : ks.Nodup) : (putI ks x).Nodup := by
  unfold putI
  split
  · exact h
  · rename_i c
    exact nd_snoc h c
theorem nodup_addP {p : Int → Bool} {n : Int} {ks : List Int} (h : ks.Nodup) (src : List Int) : (addP p n ks src).Nodup := by
  refine snoc_ind (fun src => (addP p n ks src).Nodup) src h (fun l t ih => ?_)
  rw [addP_snoc]
  split
  · exact nodup_putI ih
  · exact ih
/-- a row of numbers from one to M -/
def Row (M : Int) (row : List Int) : Prop := ∀ x ∈ row, (1 : Int) ≤ x ∧ x ≤ M
theorem tabs_in {p : Int → Bool} {row : List Int} {M : Int} (h : Row M row) (hM : 0 ≤ M) : ∀ k, (tabs p row k).Nodup ∧ (∀ x ∈ tabs p row k, 0 ≤ x ∧ x ≤ M * k)
  | 0 => ⟨by simp [tabs], fun x hx => by
    rw [List.mem_singleton.mp hx]
    exact ⟨Int.le_refl 0, by rw [Int.natCast_zero, Int.mul_zero] <;> exact Int.le_refl 0⟩⟩
  | k + 1 => by
    obtain ⟨i1, i2⟩ := tabs_in (p := p) h hM k
    have e : M * ((k + 1 : Nat) : Int) = M * k + M := by rw [Int.natCast_add, Int.mul_add] <;> simp
    cases er : row[k]? with
    | none =>
      rw [tabs_no er]
      exact ⟨i1, fun x hx => by have := i2 x hx; omega⟩
    | some n =>
      have hn := h n (List.mem_of_getElem? er)
      rw [tabs_at er]
      refine ⟨nodup_addP i1 _, fun x hx => ?_⟩
      rcases (mem_addP _).mp hx with a | ⟨_, a⟩
      · have := i2 x a
        omega
      · have := i2 _ a
        omega
theorem few_of {ks : List Int} {N : Int} (h : ks.Nodup) (hb : ∀ x ∈ ks, 0 ≤ x ∧ x ≤ N) : ks.length ≤ N.toNat + 1 := by
  have s : ks ⊆ 0 :: upto N.toNat := fun x hx => by
    have := hb x hx
    by_cases z : x = 0
    · rw [z]
      exact List.mem_cons_self
    · exact List.mem_cons_of_mem _ (mem_upto.mpr ⟨by omega, by omega⟩)
  have := List.Nodup.length_le_of_subset h s
  rw [List.length_cons, upto_length] at this
  exact this
theorem tabs_len {p : Int → Bool} {row : List Int} (h : Row 1000 row) {k : Nat} (hk : k ≤ 1000) : (tabs p row k).length ≤ 1000001 := by
  obtain ⟨a, b⟩ := tabs_in (p := p) h (by decide) k
  have := few_of a b
  omega
theorem mem_tabs {p : Int → Bool} {row : List Int} {k : Nat} {n x : Int} (h : row[k]? = some n) : x ∈ tabs p row (k + 1) ↔ x ∈ tabs p row k ∨ (p x = true ∧ x - n ∈ tabs p row k) := by
  rw [tabs_at h, mem_addP]
/-- what a lid leaves out does not matter below it -/
theorem tabs_lid {row : List Int} {M W : Int} (h : Row M row) : ∀ (k : Nat) (x : Int), x ≤ W → (x ∈ tabs (fun x => decide (x ≤ W)) row k ↔ x ∈ tabs (fun _ => true) row k)
  | 0, x, _ => Iff.rfl
  | k + 1, x, hx => by
    cases er : row[k]? with
    | none =>
      rw [tabs_no er, tabs_no er]
      exact tabs_lid h k x hx
    | some n =>
      have hn := h n (List.mem_of_getElem? er)
      rw [mem_tabs er, mem_tabs er, tabs_lid h k x hx, tabs_lid h k (x - n) (by omega)]
      exact or_congr Iff.rfl (and_congr ⟨fun _ => rfl, fun _ => decide_eq_true hx⟩ Iff.rfl)
/-- taken from the greatest on: what is taken, and what is left -/
def gr (tb : Nat → List Int) (row : List Int) : Nat → Int → List Int × Int
  | 0, w => ([], w)
  | k + 1, w => match row[k]? with
    | none => gr tb row k w
    | some r => if r ≤ w ∧ w - r ∈ tb k then (r :: (gr tb row k (w - r)).1, (gr tb row k (w - r)).2) else gr tb row k w
theorem gr_yes {tb : Nat → List Int} {row : List Int} {k : Nat} {w r : Int} (h : row[k]? = some r) (c : r ≤ w ∧ w - r ∈ tb k) : gr tb row (k + 1) w = (r :: (gr tb row k (w - r)).1, (gr tb row k (w - r)).2) := by
  show (match row[k]? with | none => gr tb row k w | some r => if r ≤ w ∧ w - r ∈ tb k then (r :: (gr tb row k (w - r)).1, (gr tb row k (w - r)).2) else gr tb row k w) = _
  rw [h]
  exact if_pos c
theorem gr_not {tb : Nat → List Int} {row : List Int} {k : Nat} {w r : Int} (h : row[k]? = some r) (c : ¬ (r ≤ w ∧ w - r ∈ tb k)) : gr tb row (k + 1) w = gr tb row k w := by
  show (match row[k]? with | none => gr tb row k w | some r => if r ≤ w ∧ w - r ∈ tb k then (r :: (gr tb row k (w - r)).1, (gr tb row k (w - r)).2) else gr tb row k w) = _
  rw [h]
  exact if_neg c
theorem gr_none {tb : Nat → List Int} {row : List Int} {k : Nat} {w : Int} (h : row[k]? = none) : gr tb row (k + 1) w = gr tb row k w := by
  show (match row[k]? with | none => gr tb row k w | some r => if r ≤ w ∧ w - r ∈ tb k then (r :: (gr tb row k (w - r)).1, (gr tb row k (w - r)).2) else gr tb row k w) = _
  rw [h]
theorem gr_lid {row : List Int} {M W : Int} (h : Row M row) : ∀ (k : Nat) (w : Int), w ≤ W → gr (tabs (fun x => decide (x ≤ W)) row) row k w = gr (tabs (fun _ => true) row) row k w
  | 0, _, _ => rfl
  | k + 1, w, hw => by
    cases er : row[k]? with
    | none =>
      rw [gr_none er, gr_none er]
      exact gr_lid h k w hw
    | some r =>
      have hr := h r (List.mem_of_getElem? er)
      have e := tabs_lid (W := W) h k (w - r) (by omega)
      by_cases c : r ≤ w ∧ w - r ∈ tabs (fun _ => true) row k
      · rw [gr_yes er c, gr_yes er ⟨c.1, e.mpr c.2⟩, gr_lid h k (w - r) (by omega)]
      · rw [gr_not er c, gr_not er fun z => c ⟨z.1, e.mp z.2⟩, gr_lid h k w hw]
/-- nothing is left just where the row has the sum -/
theorem gr_zero {row : List Int} {M : Int} (h : Row M row) (hM : 0 ≤ M) : ∀ (k : Nat) (w : Int), 0 ≤ w → 0 ≤ (gr (tabs (fun _ => true) row) row k w).2 ∧ ((gr (tabs (fun _ => true) row) row k w).2 = 0 ↔ w ∈ tabs (fun _ => true) row k)
  | 0, w, hw => ⟨hw, by
    show w = 0 ↔ w ∈ [0]
    simp⟩
  | k + 1, w, hw => by
    cases er : row[k]? with
    | none =>
      rw [gr_none er, tabs_no er]
      exact gr_zero h hM k w hw
    | some r =>
      have hr := h r (List.mem_of_getElem? er)
      rw [mem_tabs er]
      by_cases c : r ≤ w ∧ w - r ∈ tabs (fun _ => true) row k
      · obtain ⟨a, b⟩ := gr_zero h hM k (w - r) (by omega)
        rw [gr_yes er c]
        exact ⟨a, b.trans ⟨fun z => .inr ⟨rfl, z⟩, fun _ => c.2⟩⟩
      · obtain ⟨a, b⟩ := gr_zero h hM k w hw
        rw [gr_not er c]
        refine ⟨a, b.trans ⟨.inl, fun z => z.resolve_right fun z => c ⟨?_, z.2⟩⟩⟩
        have := (tabs_in (p := fun _ => true) h hM k).2 _ z.2
        omega
theorem gr_sum {tb : Nat → List Int} {row : List Int} : ∀ (k : Nat) (w : Int), (gr tb row k w).1.sum + (gr tb row k w).2 = w
  | 0, w => by
    show (0 : Int) + w = w
    omega
  | k + 1, w => by
    cases er : row[k]? with
    | none =>
      rw [gr_none er]
      exact gr_sum k w
    | some r =>
      by_cases c : r ≤ w ∧ w - r ∈ tb k
      · have := gr_sum (tb := tb) (row := row) k (w - r)
        rw [gr_yes er c]
        show (r :: _).sum + _ = w
        rw [List.sum_cons]
        omega
      · rw [gr_not er c]
        exact gr_sum k w
theorem gr_mem {tb : Nat → List Int} {row : List Int} : ∀ (k : Nat) (w : Int), ∀ x ∈ (gr tb row k w).1, ∃ j, j < k ∧ row[j]? = some x
  | 0, w => fun x hx => nomatch hx
  | k + 1, w => fun x hx => by
    have low : ∀ w, x ∈ (gr tb row k w).1 → ∃ j, j < k + 1 ∧ row[j]? = some x := fun w hx => by
      obtain ⟨j, a, b⟩ := gr_mem k w x hx
      exact ⟨j, by omega, b⟩
    cases er : row[k]? with
    | none =>
      rw [gr_none er] at hx
      exact low w hx
    | some r =>
      by_cases c : r ≤ w ∧ w - r ∈ tb k
      · rw [gr_yes er c] at hx
        rcases List.mem_cons.mp hx with rfl | hx
        · exact ⟨k, by omega, er⟩
        · exact low _ hx
      · rw [gr_not er c] at hx
        exact low w hx
theorem gr_falls {tb : Nat → List Int} {row : List Int} (hr : Ris row) : ∀ (k : Nat) (w : Int), (gr tb row k w).1.Pairwise (· > ·)
  | 0, w => List.Pairwise.nil
  | k + 1, w => by
    cases er : row[k]? with
    | none =>
      rw [gr_none er]
      exact gr_falls hr k w
    | some r =>
      by_cases c : r ≤ w ∧ w - r ∈ tb k
      · rw [gr_yes er c]
        refine List.pairwise_cons.mpr ⟨fun x hx => ?_, gr_falls hr k _⟩
        obtain ⟨j, a, b⟩ := gr_mem k _ x hx
        obtain ⟨h1, rfl⟩ := List.getElem?_eq_some_iff.mp er
        obtain ⟨h2, rfl⟩ := List.getElem?_eq_some_iff.mp b
        exact List.pairwise_iff_getElem.mp hr j k h2 h1 a
      · rw [gr_not er c]
        exact gr_falls hr k w
theorem gr_len {tb : Nat → List Int} {row : List Int} : ∀ (k : Nat) (w : Int), (gr tb row k w).1.length ≤ k
  | 0, w => Nat.le_refl 0
  | k + 1, w => by
    cases er : row[k]? with
    | none =>
      rw [gr_none er]
      exact Nat.le_succ_of_le (gr_len k w)
    | some r =>
      by_cases c : r ≤ w ∧ w - r ∈ tb k
      · rw [gr_yes er c]
        exact Nat.succ_le_succ (gr_len k _)
      · rw [gr_not er c]
        exact Nat.le_succ_of_le (gr_len k w)
/-! ### parts of a number -/
theorem ris_upto : ∀ n : Nat, Ris (upto n)
  | 0 => List.Pairwise.nil
  | n + 1 => by
    rw [upto_succ]
    refine List.pairwise_append.mpr ⟨ris_upto n, List.pairwise_singleton _ _, fun x hx y hy => ?_⟩
    have := mem_upto.mp hx
    rw [List.mem_singleton.mp hy]
    omega
theorem ris_divs (n : Nat) : Ris (divs n) := List.Pairwise.filter _ (ris_upto n)
theorem row_divs {n : Nat} {M : Int} (h : (n : Int) ≤ M) : Row M (divs n) := fun x hx => by
  have := (mem_divs.mp hx).1
  omega
def allT (n : Nat) : Nat → List Int := tabs (fun _ => true) (divs n)
/-- the parts of w by n, where there are -/
def partsF (n : Nat) (w : Int) : Option (List Int) := if w ∈ allT n (divs n).length then some (gr (allT n) (divs n) (divs n).length w).1 else none
theorem partsF_some {n : Nat} {w : Int} {l : List Int} (h : partsF n w = some l) (hw : 0 ≤ w) : l.sum = w ∧ l.Pairwise (· > ·) ∧ (∀ x ∈ l, x ∈ divs n) ∧ l.length ≤ n := by
  unfold partsF at h
  split at h
  · rename_i c
    cases h
    have z := ((gr_zero (row_divs (Int.le_refl (n : Int))) (Int.natCast_nonneg n) (divs n).length w hw).2).mpr c
    have s := gr_sum (tb := allT n) (row := divs n) (divs n).length w
    refine ⟨?_, gr_falls (ris_divs n) _ _, fun x hx => ?_, Nat.le_trans (gr_len _ _) (divs_len n)⟩
    · have z : (gr (allT n) (divs n) (divs n).length w).2 = 0 := z
      omega
    · obtain ⟨j, _, b⟩ := gr_mem _ _ x hx
      exact List.mem_of_getElem? b
  · cases h
/-- the law's own walk tells the same -/
theorem partsF_lid {n : Nat} {w : Int} (hw : 0 ≤ w) : (if 0 < (gr (tabs (fun x => decide (x ≤ w)) (divs n)) (divs n) (divs n).length w).2 then none else some (gr (tabs (fun x => decide (x ≤ w)) (divs n)) (divs n) (divs n).length w).1) = partsF n w := by
  rw [gr_lid (row_divs (Int.le_refl (n : Int))) _ w (Int.le_refl w)]
  obtain ⟨a, b⟩ := gr_zero (row_divs (Int.le_refl (n : Int))) (Int.natCast_nonneg n) (divs n).length w hw
  unfold partsF
  by_cases c : w ∈ allT n (divs n).length
  · rw [if_pos c, if_neg (by have := b.mpr c; omega)] <;> rfl
  · rw [if_neg c, if_pos]
    have : ¬ (gr (tabs (fun _ => true) (divs n)) (divs n) (divs n).length w).2 = 0 := fun z => c (b.mp z)
    omega
/-! ### the dicts in a list -/
/-- at F a list of m + 1 dicts: the tables 0 to m -/
structure TabsAt (H : Hp) (F : Addr) (tb : Nat → List Int) (m : Nat) (ds : List Addr) : Prop where
  lst : H F = some (.lst (ds.map V.ref))
  len : ds.length = m + 1
  each : ∀ (j : Nat) (d : Addr), ds[j]? = some d → H d = some (.dK (kvI (tb j)))
theorem TabsAt.same {H H' : Hp} {F : Addr} {tb : Nat → List Int} {m : Nat} {ds : List Addr} (h : TabsAt H F tb m ds) (s : Same H H') : TabsAt H' F tb m ds := ⟨s _ _ h.lst, h.len, fun j d e => s _ _ (h.each j d e)⟩
theorem TabsAt.at {H : Hp} {F : Addr} {tb : Nat → List Int} {m : Nat} {ds : List Addr} (h : TabsAt H F tb m ds) {j : Nat} (hj : j ≤ m) : ∃ d, (ds.map V.ref)[j]? = some (.ref d) ∧ H d = some (.dK (kvI (tb j))) := by
  have l := h.len
  have hl : j < ds.length := by omega
  exact ⟨ds[j], get_map (List.getElem?_eq_getElem hl), h.each j _ (List.getElem?_eq_getElem hl)⟩
theorem atI_neg1 {α : Type} {xs : List α} {v : α} (h : xs[xs.length - 1]? = some v) : atI xs (-1) = some v := by
  have hl := lt_of_get h
  have e : xs = xs.dropLast ++ [v] := by
    have ne : xs ≠ [] := fun z => by
      rw [z] at hl
      exact absurd hl (by simp)
    rw [← List.dropLast_concat_getLast ne] at h ⊢
    congr 1
    · rw [List.dropLast_concat]
    · rw [List.getLast_eq_getElem ne]
      have := (List.getElem?_eq_some_iff.mp (by rw [List.dropLast_concat_getLast ne] at h; exact h)).2
      rw [this]
  rw [e]
  exact atI_last _ _
theorem TabsAt.last {H : Hp} {F : Addr} {tb : Nat → List Int} {m : Nat} {ds : List Addr} (h : TabsAt H F tb m ds) : ∃ d, atI (ds.map V.ref) (-1) = some (.ref d) ∧ H d = some (.dK (kvI (tb m))) := by
  obtain ⟨d, e1, e2⟩ := h.at (Nat.le_refl m)
  refine ⟨d, atI_neg1 ?_, e2⟩
  rw [List.length_map, h.len]
  exact e1
theorem TabsAt.push {H : Hp} {F M : Addr} {tb : Nat → List Int} {m : Nat} {ds : List Addr} (h : TabsAt H F tb m ds) (eM : H M = some (.dK (kvI (tb (m + 1))))) : TabsAt (upd H F (.lst (ds.map V.ref ++ [.ref M]))) F tb (m + 1) (ds ++ [M]) := ⟨by rw [upd_same, List.map_append] <;> rfl, by rw [List.length_append, h.len] <;> rfl, fun j d e => by
  have k : H d = some (.dK (kvI (tb j))) := by
    by_cases c : j < ds.length
    · rw [List.getElem?_append_left c] at e
      exact h.each j d e
    · have hl := h.len
      have hj := lt_of_get e
      rw [List.length_append, List.length_singleton] at hj
      obtain rfl : j = m + 1 := by omega
      rw [List.getElem?_append_right (by omega), hl, Nat.sub_self] at e
      cases e
      exact eM
  rw [upd_ne (ne_of k h.lst (fun z => by cases z))]
  exact k⟩
theorem addP_len {p : Int → Bool} {n : Int} {ks : List Int} (src : List Int) : (addP p n ks src).length ≤ ks.length + src.length := by
  refine snoc_ind (fun src => (addP p n ks src).length ≤ ks.length + src.length) src (Nat.le_refl _) (fun l t ih => ?_)
  rw [addP_snoc, List.length_append, List.length_singleton]
  split
  · unfold putI
    split
    · omega
    · rw [List.length_append, List.length_singleton]
      omega
  · omega
theorem nodup_falls {l : List Int} (h : l.Pairwise (· > ·)) : l.Nodup := h.imp fun z => by omega

--: math = parts
/-! ### the least that is lacking -/
structure Lack (T : List Int) (L : Int) : Prop where
  ge : 1 ≤ L
  no : L ∉ T
  all : ∀ x : Int, 1 ≤ x → x < L → x ∈ T
theorem Lack.uniq {T : List Int} {L M : Int} (h : Lack T L) (g : Lack T M) : L = M := by
  rcases Int.lt_trichotomy L M with c | c | c
  · exact absurd (g.all L h.ge c) h.no
  · exact c
  · exact absurd (h.all M g.ge c) g.no
theorem zero_tabs {p : Int → Bool} {row : List Int} : ∀ k, (0 : Int) ∈ tabs p row k
  | 0 => List.mem_cons_self
  | k + 1 => by
    cases er : row[k]? with
    | none =>
      rw [tabs_no er]
      exact zero_tabs k
    | some n => exact (mem_tabs er).mpr (.inl (zero_tabs k))
theorem tabs_sum {p : Int → Bool} {row : List Int} {M : Int} (h : Row M row) : ∀ (k : Nat) (x : Int), x ∈ tabs p row k → x ≤ (row.take k).sum
  | 0, x, hx => by
    rw [List.mem_singleton.mp hx]
    exact Int.le_refl 0
  | k + 1, x, hx => by
    cases er : row[k]? with
    | none =>
      rw [tabs_no er] at hx
      have hl := List.getElem?_eq_none_iff.mp er
      have ih := tabs_sum h k x hx
      rw [List.take_of_length_le hl] at ih
      rw [List.take_of_length_le (Nat.le_succ_of_le hl)]
      exact ih
    | some n =>
      have hn := h n (List.mem_of_getElem? er)
      rw [take_snoc er, List.sum_append, List.sum_cons, List.sum_nil]
      rcases (mem_tabs er).mp hx with a | ⟨_, a⟩
      · have := tabs_sum h k x a
        omega
      · have := tabs_sum h k _ a
        omega
/-- the law's lid leaves the lack as it is -/
theorem Lack.lid {row : List Int} {M L : Int} (h : Row M row) (hs : row.sum < 4000) (g : Lack (tabs (fun x => decide (x ≤ 4000)) row row.length) L) : Lack (tabs (fun _ => true) row row.length) L := by
  have lt : L ≤ 4000 := by
    by_cases c : L ≤ 4000
    · exact c
    · have m := g.all 4000 (by decide) (by omega)
      have := tabs_sum h _ _ m
      rw [List.take_length] at this
      omega
  exact ⟨g.ge, fun z => g.no ((tabs_lid h _ L lt).mpr z), fun x h1 h2 => (tabs_lid h _ x (by omega)).mp (g.all x h1 h2)⟩
theorem Lack.le {row : List Int} {L : Int} (h : Row 1000 row) {k : Nat} (hk : k ≤ 1000) {p : Int → Bool} (g : Lack (tabs p row k) L) : L ≤ 1000001 := by
  by_cases c : L ≤ 1
  · omega
  · have := (tabs_in (p := p) h (by decide) k).2 _ (g.all (L - 1) (by omega) (by omega))
    omega
theorem sig_small : (List.range 121).all (fun n => decide ((divs n).sum < 4000)) = true := by decide +kernel
theorem sig_great : [512, 729, 625, 1000, 997, 720, 900, 961].all (fun n => decide ((divs n).sum < 4000)) = true := by decide +kernel
theorem sig_of {n : Nat} (h : n ≤ 120 ∨ n ∈ [512, 729, 625, 1000, 997, 720, 900, 961]) : (divs n).sum < 4000 := by
  rcases h with h | h
  · exact of_decide_eq_true (List.all_eq_true.mp sig_small n (List.mem_range.mpr (by omega)))
  · exact of_decide_eq_true (List.all_eq_true.mp sig_great n h)
/-- a loop up to the lack: what it asks -/
theorem lack_step {T : List Int} {l : Int} (h0 : 1 ≤ l) (h : ∀ x : Int, 1 ≤ x → x < l → x ∈ T) (m : l ∈ T) : ∀ x : Int, 1 ≤ x → x < l + 1 → x ∈ T := fun x h1 h2 => by
  by_cases c : x = l
  · rw [c]
    exact m
  · exact h x h1 (by omega)

/-! ### sizes, by bits -/
/-- x has at most n bits -/
def Sz (n : Nat) (x : Int) : Prop := x.natAbs < 2 ^ n
theorem Sz.mono {a b : Nat} {x : Int} (h : Sz a x) (l : a ≤ b := by decide) : Sz b x := Nat.lt_of_lt_of_le h (Nat.pow_le_pow_right (by decide) l)
theorem Sz.le {a : Nat} {x y : Int} (h : Sz a y) (h0 : 0 ≤ x) (l : x ≤ y) : Sz a x := Nat.lt_of_le_of_lt (by omega : x.natAbs ≤ y.natAbs) h
theorem Sz.mul {a b : Nat} {x y : Int} (h : Sz a x) (g : Sz b y) : Sz (a + b) (x * y) := by
  unfold Sz
  rw [Int.natAbs_mul, Nat.pow_add]
  exact Nat.mul_lt_mul'' h g
theorem Sz.add {a : Nat} {x y : Int} (h : Sz a x) (g : Sz a y) : Sz (a + 1) (x + y) := by
  have h : x.natAbs < 2 ^ a := h
  have g : y.natAbs < 2 ^ a := g
  show (x + y).natAbs < 2 ^ (a + 1)
  rw [Nat.pow_succ]
  omega
theorem Sz.sub {a : Nat} {x y : Int} (h : Sz a x) (g : Sz a y) : Sz (a + 1) (x - y) := by
  have h : x.natAbs < 2 ^ a := h
  have g : y.natAbs < 2 ^ a := g
  show (x - y).natAbs < 2 ^ (a + 1)
  rw [Nat.pow_succ]
  omega
theorem Sz.cm {a b : Nat} {i j : Int} (ha : Sz a i) (hb : Sz b j) (h0 : 0 < a := by decide) (h1 : 0 < b := by decide) (h : a + b ≤ 1000000 := by decide) : CMulW i j := wide_mul ha hb h0 h1 h
theorem Sz.cd {b : Nat} {i j : Int} (hb : Sz b j) (h : 0 < j) (h0 : 0 < b := by decide) (h9 : b ≤ 9000 := by decide) : CDivP i j := cw_div h hb h0 h9
theorem Sz.lit {a : Nat} {x : Int} (h : x.natAbs < 2 ^ a := by decide) : Sz a x := h
theorem Sz.one {a : Nat} (h : 0 < a := by decide) : Sz a 1 := Nat.one_lt_two_pow (by omega)
theorem Sz.zero {a : Nat} : Sz a 0 := Nat.pow_pos (by decide)
/-- a dividend not much greater than its divisor -/
theorem cdp_near {i j : Int} {k : Nat} (hj : 0 < j) (h : i.natAbs ≤ 2 ^ k * j.natAbs) (hk : k ≤ 3000 := by decide) : CDivP i j := by
  refine divp_ok hj ?_
  have b1 : j.natAbs < 2 ^ (j.natAbs.log2 + 1) := Nat.lt_log2_self
  have b2 : i.natAbs < 2 ^ (k + (j.natAbs.log2 + 1)) := by
    rw [Nat.pow_add]
    exact Nat.lt_of_le_of_lt h (Nat.mul_lt_mul_of_pos_left b1 (Nat.pow_pos (by decide)))
  have b3 := PyProof.Rows.intBits_le b2
  have b4 : Builtin.Int.intBits j = j.natAbs.log2 + 1 := by
    unfold Builtin.Int.intBits
    rw [if_neg (by simpa using (show j ≠ 0 by omega))]
  omega

structure ErrA where
  ShareError : Addr
  NoFraction : Addr
  NotBelow : Addr
  TooGreat : Addr
  BadText : Addr
  NotRising : Addr
structure ErrC (K : PySem.W.Frag) (mg : Str → Option Value) (C S : Addr) (x : Str) : Prop where
  g : mg x = some (.ref C)
  x : PySem.W.excIn K C veT "ValueError.__new__" = true
  k : PySem.W.keepIn K (.ref C) = true
  b : PySem.W.subIn K (.ref C) (.type "BaseException") = some true
  t : PySem.W.typeIn K (.ref C) = some (.type "type")
structure ErrOk (K : PySem.W.Frag) (mg : Str → Option Value) (e : ErrA) : Prop where
  mk ::

section
variable {P : Program} {w : World} {K : PySem.W.Frag} {mg : Str → Option Value} {base : Heap} {e : ErrA}

abbrev s_divisors : Stmt := topS 1
abbrev N_divisors : List Str := ["number", "k"]
theorem sc_divisors : FnScope N_divisors ["number"] (defScope s_divisors) := ⟨rfl, rfl, rfl, by decide +kernel, rfl, by decide +kernel, by decide +kernel⟩
def sp_divisors (K : PySem.W.Frag) (_ : ErrA) : Sp := fun vs H Q _ => ∃ n : Nat, vs = [.int n] ∧ 1 ≤ n ∧ n ≤ 1000000 ∧ ∀ H' p, Same H H' → H p = none → H' p = some (.lst ((divs n).map V.int)) → Q (.ref p) H'
theorem ok_divisors (D : Stands K mg "divisors" s_divisors) (B : Bi mg) (Er : ErrOk K mg e) : Keeps P w K mg base 1 "divisors" ["number"] (sp_divisors K e) := by
  obtain ⟨f, fd, F, mF⟩ := D
  refine ⟨f, fd, ?_, F.binds (ps := ["number"]) (fun _ _ _ _ _ _ us hl => match us, hl with | [_], _ => rfl), mF, F.kp⟩
  refine toX (F.ok sc_divisors (fun vs H Q E h => ?_) (fun cdv A outer s H vs Q E hr h => ?_))
  · obtain ⟨n, rfl, h1, h2, q⟩ := h
    rfl
  · obtain ⟨n, rfl, h1, h2, q⟩ := h
    refine ⟨_, (pss_one (ps_ret (pe_lc (own := [("k", 1)]) (g := gName 1) (tt := _) (by rfl) sc_divisors.nd (pi_range2 (by rfl) B.range (pa_cons pe_int (pa_cons (pe_op op_add (pv 0) pe_int) pa_nil))) (blkOk_by (N := N_divisors) (sc := defScope s_divisors) (by decide +kernel)) (fun _ _ _ _ _ => pg_name (i := 1) sc_divisors.nd rfl (Or.inl rfl)) (fun _ _ _ _ _ => (pts_one (pt_cmpR op_eq (pe_op op_mod (pv 0) (pv 1)) pe_int (nomark _)))) (fun _ _ _ _ _ => (pv 1))))), ?_⟩
    refine ⟨_, rfl, _, _, rfl, rfl, _, _, rfl, ⟨by omega, by omega, by omega, by omega⟩, fun D hD => ?_⟩
    refine lc_range (lo := 1) (n := _) (fun i H' => Same H H' ∧ H' D = some (.lst (((upto i).filter fun k => decide ((n : Int) % k = 0)).map V.int))) ⟨same_new hD, upd_same⟩ ?_ ?_
    · rintro i H' hi ⟨hs, he⟩
      refine ⟨rfl, _, rfl, _, rfl, _, _, rfl, rfl, by omega, rfl, _, rfl, ite2 (fun c => ?_) (fun c => ?_)⟩
      · have c := V.int.inj (of_decide_eq_true c)
        refine ⟨_, rfl, _, he, ?_, same_mut hs hD, ?_⟩
        · rw [List.length_map]
          refine szl_lt (Nat.lt_of_le_of_lt (List.length_filter_le _ _) ?_)
          rw [upto_length]
          omega
        · rw [upd_same, upto_succ, fil_yes, List.map_append]
          · exact rfl
          · exact c
      · refine ⟨hs, ?_⟩
        rw [he, upto_succ, fil_no]
        exact fun z => c (decide_eq_true (congrArg V.int z))
    · rintro H' ⟨hs, he⟩
      refine q H' D hs hD ?_
      rw [he]
      have e : ((n : Int) + 1 - 1).toNat = n := by omega
      rw [e] <;> rfl

abbrev s_sums_of : Stmt := topS 2
abbrev N_sums_of : List Str := ["row", "found", "number", "more", "total"]
theorem sc_sums_of : FnScope N_sums_of ["row"] (defScope s_sums_of) := ⟨rfl, rfl, rfl, by decide +kernel, rfl, by decide +kernel, by decide +kernel⟩
def sp_sums_of (K : PySem.W.Frag) (_ : ErrA) : Sp := fun vs H Q _ => ∃ (a : Addr) (row : List Int), vs = [.ref a] ∧ SqL K H a (row.map V.int) ∧ Row 1000 row ∧ row.length ≤ 1000 ∧
  ∀ H' p ds, Same H H' → H p = none → TabsAt H' p (tabs (fun _ => true) row) row.length ds → Q (.ref p) H'
theorem ok_sums_of (D : Stands K mg "sums_of" s_sums_of) (B : Bi mg) (Er : ErrOk K mg e) : Keeps P w K mg base 1 "sums_of" ["row"] (sp_sums_of K e) := by
  obtain ⟨f, fd, F, mF⟩ := D
  refine ⟨f, fd, ?_, F.binds (ps := ["row"]) (fun _ _ _ _ _ _ us hl => match us, hl with | [_], _ => rfl), mF, F.kp⟩
  refine toX (F.ok sc_sums_of (fun vs H Q E h => ?_) (fun cdv A outer s H vs Q E hr h => ?_))
  · obtain ⟨a, row, rfl, hS, hr0, hl, q⟩ := h
    rfl
  · obtain ⟨a, row, rfl, hS, hr0, hl, q⟩ := h
    refine ⟨_, (pss_cons (ps_set (i := 1) sc_sums_of.nd rfl (Or.inl rfl) (pe_lst (pa_cons (pe_disp (pps_cons pe_int pe_bl pps_nil) (by rfl) (by rfl) (fun z => by cases z) (by decide)) pa_nil)))
      (pss_cons (ps_for PassesOwn.never rfl (pi_list (pv 0)) (pg_name (i := 2) sc_sums_of.nd rfl (Or.inl rfl)) (pss_cons (ps_set (i := 3) sc_sums_of.nd rfl (Or.inl rfl) (pe_callTy call_dictD (by rfl) B.dict (by decide +kernel) (pa_cons (pe_ix ix_list (pv 1) (pe_un un_neg pe_int) (fun _ _ => rfl)) pa_nil)))
      (pss_cons (ps_for PassesOwn.never rfl (pi_list (pe_callTy (call_listD rfl) (by rfl) B.list (by decide +kernel) (pa_cons (pe_ix ix_list (pv 1) (pe_un un_neg pe_int) (fun _ _ => rfl)) pa_nil))) (pg_name (i := 4) sc_sums_of.nd rfl (Or.inl rfl)) (pss_one (ps_dput (hu_of hr) (pv 3) (pe_op op_add (pv 4) (pv 2)) pe_bl rfl)))
      (pss_one (ps_expr (pe_bm PySem.F.plainAttrs_list PySem.F.slot_list_append PySem.F.type_list_append mt_append (pv 1) (pa_cons (pv 3) pa_nil)))))))
      (pss_one (ps_ret (pv 1))))), ?_⟩
    refine fun d0 nd0 => ⟨upd_same, [(Sum.inl 0, .bl true)], rfl, by decide, by show 1 ≤ sizeLine; decide, fun F nF => ?_⟩
    have s0 : Same H (upd (upd (upd H d0 (.dK [])) d0 (.dK (mergeK [] [(Sum.inl 0, .bl true)]))) F (.lst [.ref d0])) := same_mut (same_mut (same_new nd0) nd0) ((same_mut (same_new nd0) nd0).free nF)
    have hF : H F = none := (same_mut (same_new (o := .dK []) nd0) nd0 (o := .dK (mergeK [] [(Sum.inl 0, .bl true)]))).free nF
    have t0 : TabsAt (upd (upd (upd H d0 (.dK [])) d0 (.dK (mergeK [] [(Sum.inl 0, .bl true)]))) F (.lst [.ref d0])) F (tabs (fun _ => true) row) 0 [d0] := ⟨upd_same, rfl, fun j d e => by
      have hj : j = 0 := by
        have := lt_of_get e
        exact Nat.lt_one_iff.mp this
      subst hj
      cases e
      rw [upd_ne (ne_of_none upd_same nF), upd_same] <;> rfl⟩
    generalize (upd (upd (upd H d0 (.dK [])) d0 (.dK (mergeK [] [(Sum.inl 0, .bl true)]))) F (.lst [.ref d0])) = H0 at s0 t0
    refine ⟨_, rfl, a, rfl, ⟨_, s0.seq hS⟩, for_list (K := K) (a := a) (xs := row.map V.int) (fun i σ H' => Same H H' ∧ ∃ (ds : List Addr) (v1 v2 v3 : Option V), σ = [some (.ref a), some (.ref F), v1, v2, v3] ∧ TabsAt H' F (tabs (fun _ => true) row) i ds)
      ⟨s0, [d0], none, none, none, rfl, t0⟩ (fun i σ H' _ h => h.1.seq hS) ?_ ?_⟩
    · rintro i y σ H1 hy ⟨s1, ds, v1, v2, v3, rfl, t1⟩
      obtain ⟨n, en, rfl⟩ := of_get_map hy
      have hi := lt_of_get en
      obtain ⟨d, e1, e2⟩ := t1.last
      refine ⟨_, rfl, _, rfl, F, _, _, _, rfl, rfl, SqL.of t1.lst, e1, d, _, rfl, .inl e2, fun M nM => ?_⟩
      have s2 : Same H1 (upd H1 M (.dK (kvI (tabs (fun _ => true) row i)))) := same_new nM
      have eM : (upd H1 M (.dK (kvI (tabs (fun _ => true) row i)))) M = some (.dK (kvI (tabs (fun _ => true) row i))) := upd_same
      generalize (upd H1 M (.dK (kvI (tabs (fun _ => true) row i)))) = H2 at s2 eM
      have t2 := t1.same s2
      refine ⟨_, rfl, _, rfl, F, _, _, _, rfl, rfl, SqL.of t2.lst, e1, d, _, rfl, .inl (s2 _ _ e2), fun L nL => ?_⟩
      rw [kvI_keys]
      have s3 : Same H2 (upd H2 L (.lst ((tabs (fun _ => true) row i).map V.int))) := same_new nL
      have eL : (upd H2 L (.lst ((tabs (fun _ => true) row i).map V.int))) L = some (.lst ((tabs (fun _ => true) row i).map V.int)) := upd_same
      have eM3 := s3 _ _ eM
      have s13 := s2.trans s3
      generalize (upd H2 L (.lst ((tabs (fun _ => true) row i).map V.int))) = H3 at eL eM3 s13
      have LM : L ≠ M := ne_of eL eM3 (fun z => by cases z)
      refine ⟨L, rfl, ⟨_, SqL.of eL⟩, for_list (K := K) (a := L) (xs := (tabs (fun _ => true) row i).map V.int) (fun j σ H' => Same H1 H' ∧ H' L = some (.lst ((tabs (fun _ => true) row i).map V.int)) ∧
        H' M = some (.dK (kvI (addP (fun _ => true) n (tabs (fun _ => true) row i) ((tabs (fun _ => true) row i).take j)))) ∧ ∃ v : Option V, σ = [some (.ref a), some (.ref F), some (.int n), some (.ref M), v])
        ⟨s13, eL, eM3, v3, rfl⟩ (fun j σ H' _ h => SqL.of h.2.1) ?_ ?_⟩
      · rintro j y σ H4 hy ⟨s4, eL4, eM4, v, rfl⟩
        obtain ⟨x, ex, rfl⟩ := of_get_map hy
        refine ⟨_, rfl, _, rfl, _, rfl, _, _, rfl, rfl, M, _, rfl, DPut.k (k := Sum.inl (x + n)) eM4 ?_, ?_⟩
        · rw [kvI_len]
          have := addP_len (p := fun _ => true) (n := n) (ks := tabs (fun _ => true) row i) ((tabs (fun _ => true) row i).take j)
          have h1 := tabs_len (p := fun _ => true) hr0 (k := i) (by omega)
          have h2 : ((tabs (fun _ => true) row i).take j).length ≤ (tabs (fun _ => true) row i).length := by
            rw [List.length_take]
            exact Nat.min_le_right _ _
          exact szl_lt (by omega)
        · refine ⟨same_mut s4 nM, ?_, ?_, _, rfl⟩
          · rw [upd_ne LM]
            exact eL4
          · rw [upd_same, put_kv, take_snoc ex, addP_snoc, if_pos rfl]
      · rintro σ H4 ⟨s4, eL4, eM4, v, rfl⟩
        rw [List.length_map, List.take_length, ← tabs_at en] at eM4
        have t4 := t1.same s4
        refine ⟨_, rfl, .inl ⟨rfl, _, SqL.of t4.lst⟩, _, rfl, F, _, _, rfl, rfl, t4.lst, by
          rw [List.length_map, t4.len]
          exact szl_lt (by omega), ?_⟩
        exact ⟨same_mut (s1.trans s4) hF, ds ++ [M], _, _, _, rfl, t4.push eM4⟩
    · rintro σ H1 ⟨s1, ds, v1, v2, v3, rfl, t1⟩
      rw [List.length_map] at t1
      exact ⟨_, rfl, q H1 F ds s1 hF t1⟩

abbrev s_parts : Stmt := topS 3
abbrev N_parts : List Str := ["number", "wanted", "row", "sums", "found", "k"]
theorem sc_parts : FnScope N_parts ["number", "wanted"] (defScope s_parts) := ⟨rfl, rfl, rfl, by decide +kernel, rfl, by decide +kernel, by decide +kernel⟩
def sp_parts (K : PySem.W.Frag) (_ : ErrA) : Sp := fun vs H Q _ => ∃ (n : Nat) (w : Int), vs = [.int n, .int w] ∧ 1 ≤ n ∧ n ≤ 1000 ∧ 0 ≤ w ∧
  ∀ H', Same H H' → match partsF n w with | none => Q .non H' | some l => ∀ p, H p = none → H' p = some (.lst (l.map V.int)) → Q (.ref p) H'
theorem ok_parts (D : Stands K mg "parts" s_parts) (B : Bi mg) (Er : ErrOk K mg e)
    (h_divisors : Keeps P w K mg base 1 "divisors" ["number"] (sp_divisors K e))
    (h_sums_of : Keeps P w K mg base 1 "sums_of" ["row"] (sp_sums_of K e)) : Keeps P w K mg base 2 "parts" ["number", "wanted"] (sp_parts K e) := by
  obtain ⟨f, fd, F, mF⟩ := D
  obtain ⟨f_divisors, fd_divisors, G_divisors, b_divisors, m_divisors, k_divisors⟩ := h_divisors
  obtain ⟨f_sums_of, fd_sums_of, G_sums_of, b_sums_of, m_sums_of, k_sums_of⟩ := h_sums_of
  refine ⟨f, fd, ?_, F.binds (ps := ["number", "wanted"]) (fun _ _ _ _ _ _ us hl => match us, hl with | [_, _], _ => rfl), mF, F.kp⟩
  refine toX (F.ok sc_parts (fun vs H Q E h => ?_) (fun cdv A outer s H vs Q E hr h => ?_))
  · obtain ⟨n, w, rfl, n1, n2, w0, q⟩ := h
    rfl
  · obtain ⟨n, w, rfl, n1, n2, w0, q⟩ := h
    refine ⟨_, (pss_cons (ps_set (i := 2) sc_parts.nd rfl (Or.inl rfl) (pe_call G_divisors (hr.mono (by decide)) (by rfl) m_divisors k_divisors b_divisors .nil passL (pa_cons (pv 0) pa_nil)))
      (pss_cons (ps_set (i := 3) sc_parts.nd rfl (Or.inl rfl) (pe_call G_sums_of (hr.mono (by decide)) (by rfl) m_sums_of k_sums_of b_sums_of .nil passL (pa_cons (pv 2) pa_nil)))
      (pss_cons (ps_if (pt_cmp (pc_dnotin (hu_of hr) (pv 1) (pe_ix ix_list (pv 3) (pe_un un_neg pe_int) (fun _ _ => rfl)))) (pss_one (ps_ret pe_non)) pss_nil)
      (pss_cons (ps_set (i := 4) sc_parts.nd rfl (Or.inl rfl) (pe_lst pa_nil))
      (pss_cons (ps_for PassesOwn.never rfl (pi_range3 (by rfl) B.range (pa_cons (pe_op op_sub (pe_callB call_len_seq (by rfl) B.len (by decide +kernel) (pa_cons (pv 2) pa_nil)) pe_int) (pa_cons (pe_un un_neg pe_int) (pa_cons (pe_un un_neg pe_int) pa_nil)))) (pg_name (i := 5) sc_parts.nd rfl (Or.inl rfl)) (pss_one (ps_if (PW.pt (pw_and (pt_cmpR op_ge (pv 1) (pe_ix ix_list (pv 2) (pv 5) (fun _ _ => rfl)) (nomark _)) (pw_and1 (pt_cmp (pc_din (hu_of hr) (pe_op op_sub (pv 1) (pe_ix ix_list (pv 2) (pv 5) (fun _ _ => rfl))) (pe_ix ix_list (pv 3) (pv 5) (fun _ _ => rfl))))))) (pss_cons (ps_expr (pe_bm PySem.F.plainAttrs_list PySem.F.slot_list_append PySem.F.type_list_append mt_append (pv 4) (pa_cons (pe_ix ix_list (pv 2) (pv 5) (fun _ _ => rfl)) pa_nil)))
      (pss_one (ps_set (i := 1) sc_parts.nd rfl (Or.inl rfl) (pe_op op_sub (pv 1) (pe_ix ix_list (pv 2) (pv 5) (fun _ _ => rfl)))))) pss_nil)))
      (pss_one (ps_ret (pv 4)))))))), ?_⟩
    have hl := divs_len n
    have hr0 : Row 1000 (divs n) := row_divs (by omega)
    refine ⟨_, rfl, n, rfl, n1, by omega, fun H1 r s1 nr er => ?_⟩
    refine ⟨_, rfl, r, divs n, rfl, SqL.of er, hr0, by omega, fun H2 F ds s2 nF tF => ?_⟩
    obtain ⟨d, e1, e2⟩ := tF.last
    have er2 := s2 _ _ er
    have s12 := s1.trans s2
    refine ⟨_, rfl, _, rfl, _, rfl, F, _, _, _, rfl, rfl, SqL.of tF.lst, e1, d, _, rfl, DGet.k (k := Sum.inl w) e2, _, rfl, ?_⟩
    rw [val_kv]
    by_cases c : w ∈ tabs (fun _ => true) (divs n) (divs n).length
    · rw [decide_eq_true c]
      refine iteF ?_
      refine ⟨Nat.zero_le _, fun G nG => ?_⟩
      have s3 := same_new (o := .lst []) nG
      have hG : H G = none := s12.free nG
      have er3 := s3 _ _ er2
      have tF3 := tF.same s3
      have eG3 : (upd H2 G (.lst [])) G = some (.lst []) := upd_same
      generalize (upd H2 G (.lst [])) = H3 at s3 er3 tF3 eG3
      have rG : r ≠ G := ne_of_none er2 nG
      have FG : F ≠ G := ne_of_none tF.lst nG
      refine ⟨_, rfl, r, _, rfl, .inl (SqL.of er3), _, _, rfl, rfl, _, rfl, _, rfl, _, _, _, _, rfl, RgC.neg (by rw [List.length_map]; omega) (by rw [List.length_map]; omega) (by decide) (by decide), ?_⟩
      have en : (((((divs n).map V.int).length : Nat) : Int) - 1 - -1).toNat = (divs n).length := by
        rw [List.length_map]
        omega
      rw [en]
      refine for_rangeC (n := (divs n).length) (fun i σ H' => Same H2 H' ∧ ∃ (u : Int) (acc : List Int) (v : Option V), σ = [some (.int n), some (.int u), some (.ref r), some (.ref F), some (.ref G), v] ∧ H' G = some (.lst (acc.map V.int)) ∧ acc.length ≤ i ∧
        acc ++ (gr (tabs (fun _ => true) (divs n)) (divs n) ((divs n).length - i) u).1 = (gr (tabs (fun _ => true) (divs n)) (divs n) (divs n).length w).1) ⟨s3, w, [], none, rfl, eG3, Nat.le_refl 0, rfl⟩ ?_ ?_
      · rintro i σ H4 hi ⟨s4, u, acc, v, rfl, eG4, al, eq⟩
        obtain ⟨j, ej⟩ : ∃ j, (divs n).length - i = j + 1 := ⟨(divs n).length - i - 1, by omega⟩
        have ej2 : (divs n).length - (i + 1) = j := by omega
        have hj : j < (divs n).length := by omega
        have ix : ((((divs n).map V.int).length : Nat) : Int) - 1 + (i : Nat) * -1 = (j : Int) := by
          rw [List.length_map]
          omega
        have g0 : (divs n)[j]? = some (divs n)[j] := List.getElem?_eq_getElem hj
        have g : ((divs n).map V.int)[j]? = some (.int (divs n)[j]) := get_map g0
        rw [ej] at eq
        rw [ej2]
        have er4 := s4 _ _ er2
        have tF4 := tF.same s4
        obtain ⟨dj, a1, a2⟩ := tF4.at (j := j) (by omega)
        generalize (divs n)[j] = x at g0 g
        refine ⟨_, rfl, _, rfl, _, rfl, r, _, _, _, rfl, rfl, SqL.of er4, at_of (j := j) ix g, _, _, rfl, rfl, _, rfl, ite2 (fun c1 => ?_) (fun c1 => ?_)⟩
        · have c1 : x ≤ u := of_decide_eq_true c1
          refine ⟨_, rfl, _, rfl, _, rfl, r, _, _, _, rfl, rfl, SqL.of er4, at_of (j := j) ix g, _, _, rfl, rfl, _, rfl, _, rfl, F, _, _, _, rfl, rfl, SqL.of tF4.lst, at_of (j := j) ix a1, dj, _, rfl, DGet.k (k := Sum.inl (u - x)) a2, _, rfl, ?_⟩
          rw [val_kv]
          refine ite2 (fun c2 => ?_) (fun c2 => ?_)
          · have c2 := of_decide_eq_true c2
            rw [gr_yes g0 ⟨c1, c2⟩] at eq
            refine ⟨_, rfl, .inl ⟨rfl, _, SqL.of eG4⟩, _, rfl, _, rfl, r, _, _, _, rfl, rfl, SqL.of er4, at_of (j := j) ix g, G, _, _, rfl, rfl, eG4, by
              rw [List.length_map]
              exact szl_lt (by omega), ?_⟩
            have s5 := same_mut (o := .lst (acc.map V.int ++ [.int x])) s4 nG
            refine ⟨_, rfl, _, rfl, _, rfl, r, _, _, _, rfl, rfl, SqL.of (s5 _ _ er2), at_of (j := j) ix g, _, _, rfl, rfl, s5, u - x, acc ++ [x], _, rfl, ?_, ?_, ?_⟩
            · rw [upd_same, List.map_append] <;> rfl
            · rw [List.length_append, List.length_singleton]
              omega
            · rw [List.append_assoc]
              exact eq
          · have c2 : ¬ u - x ∈ tabs (fun _ => true) (divs n) j := fun z => c2 (decide_eq_true z)
            rw [gr_not g0 (fun z => c2 z.2)] at eq
            exact ⟨s4, u, acc, _, rfl, eG4, by omega, eq⟩
        · have c1 : ¬ x ≤ u := fun z => c1 (decide_eq_true z)
          rw [gr_not g0 (fun z => c1 z.1)] at eq
          exact iteF ⟨s4, u, acc, _, rfl, eG4, by omega, eq⟩
      · rintro σ H4 ⟨s4, u, acc, v, rfl, eG4, al, eq⟩
        rw [Nat.sub_self] at eq
        have eq : acc ++ [] = _ := eq
        rw [List.append_nil] at eq
        have k := q H4 (s12.trans s4)
        rw [show partsF n w = _ from if_pos c] at k
        rw [eq] at eG4
        exact ⟨_, rfl, k G hG eG4⟩
    · rw [decide_eq_false c]
      refine iteT ?_
      have k := q H2 s12
      rw [show partsF n w = _ from if_neg c] at k
      exact k

abbrev s_least_lack : Stmt := topS 4
abbrev N_least_lack : List Str := ["number", "sums", "lack"]
theorem sc_least_lack : FnScope N_least_lack ["number"] (defScope s_least_lack) := ⟨rfl, rfl, rfl, by decide +kernel, rfl, by decide +kernel, by decide +kernel⟩
def sp_least_lack (K : PySem.W.Frag) (_ : ErrA) : Sp := fun vs H Q _ => ∃ n : Nat, vs = [.int n] ∧ 1 ≤ n ∧ n ≤ 1000 ∧ ∀ H' L, Same H H' → Lack (tabs (fun _ => true) (divs n) (divs n).length) L → Q (.int L) H'
theorem ok_least_lack (D : Stands K mg "least_lack" s_least_lack) (B : Bi mg) (Er : ErrOk K mg e)
    (h_sums_of : Keeps P w K mg base 1 "sums_of" ["row"] (sp_sums_of K e))
    (h_divisors : Keeps P w K mg base 1 "divisors" ["number"] (sp_divisors K e)) : Keeps P w K mg base 2 "least_lack" ["number"] (sp_least_lack K e) := by
  obtain ⟨f, fd, F, mF⟩ := D
  obtain ⟨f_sums_of, fd_sums_of, G_sums_of, b_sums_of, m_sums_of, k_sums_of⟩ := h_sums_of
  obtain ⟨f_divisors, fd_divisors, G_divisors, b_divisors, m_divisors, k_divisors⟩ := h_divisors
  refine ⟨f, fd, ?_, F.binds (ps := ["number"]) (fun _ _ _ _ _ _ us hl => match us, hl with | [_], _ => rfl), mF, F.kp⟩
  refine toX (F.ok sc_least_lack (fun vs H Q E h => ?_) (fun cdv A outer s H vs Q E hr h => ?_))
  · obtain ⟨n, rfl, n1, n2, q⟩ := h
    rfl
  · obtain ⟨n, rfl, n1, n2, q⟩ := h
    refine ⟨_, (pss_cons (ps_set (i := 1) sc_least_lack.nd rfl (Or.inl rfl) (pe_ix ix_list (pe_call G_sums_of (hr.mono (by decide)) (by rfl) m_sums_of k_sums_of b_sums_of .nil passL (pa_cons (pe_call G_divisors (hr.mono (by decide)) (by rfl) m_divisors k_divisors b_divisors .nil passL (pa_cons (pv 0) pa_nil)) pa_nil)) (pe_un un_neg pe_int) (fun _ _ => rfl)))
      (pss_cons (ps_set (i := 2) sc_least_lack.nd rfl (Or.inl rfl) pe_int)
      (pss_cons (ps_while PassesOwn.never (pt_cmp (pc_din (hu_of hr) (pv 2) (pv 1))) (pss_one (ps_set (i := 2) sc_least_lack.nd rfl (Or.inl rfl) (pe_op op_add (pv 2) pe_int))))
      (pss_one (ps_ret (pv 2)))))), ?_⟩
    have hl := divs_len n
    have hr0 : Row 1000 (divs n) := row_divs (by omega)
    refine ⟨_, rfl, n, rfl, n1, by omega, fun H1 r s1 nr er => ?_⟩
    refine ⟨r, divs n, rfl, SqL.of er, hr0, by omega, fun H2 F ds s2 nF tF => ?_⟩
    obtain ⟨d, e1, e2⟩ := tF.last
    refine ⟨_, rfl, F, _, _, _, rfl, rfl, SqL.of tF.lst, e1, ?_⟩
    refine while_by (fun σ H' => H' = H2 ∧ ∃ l : Int, σ = [some (.int n), some (.ref d), some (.int l)] ∧ 1 ≤ l ∧ ∀ x : Int, 1 ≤ x → x < l → x ∈ tabs (fun _ => true) (divs n) (divs n).length)
      (fun σ _ => match σ with | [_, _, some (.int l)] => (1000002 - l).toNat | _ => 0) ⟨rfl, 1, rfl, by decide, fun x h1 h2 => absurd h2 (by omega)⟩ ?_ ?_
    · rintro σ H' ⟨rfl, l, rfl, l1, la⟩
      refine ⟨_, rfl, _, rfl, d, _, rfl, DGet.k (k := Sum.inl l) e2, _, rfl, ?_⟩
      rw [val_kv]
      refine ite2 (fun c => ?_) (fun c => ?_)
      · have c := of_decide_eq_true c
        have lb := (tabs_in (p := fun _ => true) hr0 (by decide) (divs n).length).2 _ c
        refine ⟨_, rfl, _, _, rfl, rfl, ⟨rfl, l + 1, rfl, by omega, lack_step l1 la c⟩, ?_⟩
        show (1000002 - (l + 1)).toNat < (1000002 - l).toNat
        omega
      · exact ⟨_, rfl, q _ l (s1.trans s2) ⟨l1, fun z => c (decide_eq_true z), la⟩⟩
    · rintro σ H' Q1 Q2 hq ⟨v, e1, u, e2, a, o, e3, g, c, e4, q⟩
      exact ⟨v, e1, u, e2, a, o, e3, g, c, e4, hq _ _ q⟩

abbrev s_handy : Stmt := topS 5
abbrev N_handy : List Str := ["number"]
theorem sc_handy : FnScope N_handy ["number"] (defScope s_handy) := ⟨rfl, rfl, rfl, by decide +kernel, rfl, by decide +kernel, by decide +kernel⟩
def sp_handy (K : PySem.W.Frag) (_ : ErrA) : Sp := fun vs H Q _ => ∃ n : Nat, vs = [.int n] ∧ 1 ≤ n ∧ n ≤ 1000 ∧ ∀ H' L, Same H H' → Lack (tabs (fun _ => true) (divs n) (divs n).length) L → Q (.bl (decide ((n : Int) < L))) H'
theorem ok_handy (D : Stands K mg "handy" s_handy) (B : Bi mg) (Er : ErrOk K mg e)
    (h_least_lack : Keeps P w K mg base 2 "least_lack" ["number"] (sp_least_lack K e)) : Keeps P w K mg base 3 "handy" ["number"] (sp_handy K e) := by
  obtain ⟨f, fd, F, mF⟩ := D
  obtain ⟨f_least_lack, fd_least_lack, G_least_lack, b_least_lack, m_least_lack, k_least_lack⟩ := h_least_lack
  refine ⟨f, fd, ?_, F.binds (ps := ["number"]) (fun _ _ _ _ _ _ us hl => match us, hl with | [_], _ => rfl), mF, F.kp⟩
  refine toX (F.ok sc_handy (fun vs H Q E h => ?_) (fun cdv A outer s H vs Q E hr h => ?_))
  · obtain ⟨n, rfl, n1, n2, q⟩ := h
    rfl
  · obtain ⟨n, rfl, n1, n2, q⟩ := h
    refine ⟨_, (pss_one (ps_ret (pe_cmpR op_gt (pe_call G_least_lack (hr.mono (by decide)) (by rfl) m_least_lack k_least_lack b_least_lack .nil passL (pa_cons (pv 0) pa_nil)) (pv 0) (nomark _)))), ?_⟩
    exact ⟨_, rfl, n, rfl, n1, n2, fun H1 L s1 g => ⟨_, rfl, _, _, rfl, rfl, q H1 L s1 g⟩⟩

abbrev s_law_cell_at : Stmt := topS 7
abbrev N_law_cell_at : List Str := ["script", "k"]
theorem sc_law_cell_at : FnScope N_law_cell_at ["script", "k"] (defScope s_law_cell_at) := ⟨rfl, rfl, rfl, by decide +kernel, rfl, by decide +kernel, by decide +kernel⟩
/-- script[k], nought beyond the end -/
def cell (ns : List Int) (k : Nat) : Int := ns.getD k 0
theorem cell_arg {a : Addr} {x : Int} {k : Nat} (h : x = k) : [V.ref a, V.int x] = [V.ref a, V.int (k : Int)] := by rw [h]
def sp_law_cell_at (K : PySem.W.Frag) (_ : ErrA) : Sp := fun vs H Q _ => ∃ (a : Addr) (ns : List Int) (k : Nat), vs = [.ref a, .int k] ∧ SqL K H a (ns.map V.int) ∧ ns.length ≤ 63 ∧ Q (.int (cell ns k)) H
theorem ok_law_cell_at (D : Stands K mg "_law_cell_at" s_law_cell_at) (B : Bi mg) (Er : ErrOk K mg e) : Keeps P w K mg base 1 "_law_cell_at" ["script", "k"] (sp_law_cell_at K e) := by
  obtain ⟨f, fd, F, mF⟩ := D
  refine ⟨f, fd, ?_, F.binds (ps := ["script", "k"]) (fun _ _ _ _ _ _ us hl => match us, hl with | [_, _], _ => rfl), mF, F.kp⟩
  refine toX (F.ok sc_law_cell_at (fun vs H Q E h => ?_) (fun cdv A outer s H vs Q E hr h => ?_))
  · obtain ⟨a, ns, k, rfl, hS, hk, q⟩ := h
    rfl
  · obtain ⟨a, ns, k, rfl, hS, hk, q⟩ := h
    refine ⟨_, (pss_cons (ps_if (pt_cmpR op_lt (pv 1) (pe_callB call_len_seq (by rfl) B.len (by decide +kernel) (pa_cons (pv 0) pa_nil)) (nomark _)) (pss_one (ps_ret (pe_ix ix_list (pv 0) (pv 1) (fun _ _ => rfl)))) pss_nil)
      (pss_one (ps_ret pe_int))), ?_⟩
    refine ⟨_, rfl, _, rfl, a, _, rfl, .inl hS, _, _, rfl, rfl, _, rfl, ite2 (fun c => ?_) (fun c => ?_)⟩
    · have c := of_decide_eq_true c
      rw [List.length_map] at c
      have hl : k < ns.length := by omega
      have g : ns[k]? = some (cell ns k) := by
        unfold cell
        rw [List.getD_eq_getElem?_getD, List.getElem?_eq_getElem hl] <;> rfl
      exact ⟨_, rfl, _, rfl, a, _, _, _, rfl, rfl, hS, atI_nat (get_map g), q⟩
    · have z : cell ns k = 0 := by
        unfold cell
        rw [List.getD_eq_getElem?_getD, List.getElem?_eq_none] <;> first | rfl | skip
        have c : ¬ ((k : Int) < ((ns.map V.int).length : Int)) := fun z => c (decide_eq_true z)
        rw [List.length_map] at c
        omega
      rw [z] at q
      exact q

abbrev s_law_whole : Stmt := topS 8
abbrev N_law_whole : List Str := ["found"]
theorem sc_law_whole : FnScope N_law_whole ["found"] (defScope s_law_whole) := ⟨rfl, rfl, rfl, by decide +kernel, rfl, by decide +kernel, by decide +kernel⟩
def sp_law_whole (K : PySem.W.Frag) (_ : ErrA) : Sp := fun vs H Q _ => ∃ i : Int, vs = [.int i] ∧ Q (.bl true) H
theorem ok_law_whole (D : Stands K mg "_law_whole" s_law_whole) (B : Bi mg) (Er : ErrOk K mg e) : Keeps P w K mg base 1 "_law_whole" ["found"] (sp_law_whole K e) := by
  obtain ⟨f, fd, F, mF⟩ := D
  refine ⟨f, fd, ?_, F.binds (ps := ["found"]) (fun _ _ _ _ _ _ us hl => match us, hl with | [_], _ => rfl), mF, F.kp⟩
  refine toX (F.ok sc_law_whole (fun vs H Q E h => ?_) (fun cdv A outer s H vs Q E hr h => ?_))
  · obtain ⟨i, rfl, q⟩ := h
    rfl
  · obtain ⟨i, rfl, q⟩ := h
    refine ⟨_, (pss_one (ps_ret (pe_and (pe_callB call_isi (by rfl) B.isinstance (by decide +kernel) (pa_cons (pv 0) (pa_cons (pe_bltn (v := .ty "int") (by rfl) B.int (by decide +kernel) rfl) pa_nil))) (pe_one (pe_not (pe_callB call_isi (by rfl) B.isinstance (by decide +kernel) (pa_cons (pv 0) (pa_cons (pe_bltn (v := .ty "bool") (by rfl) B.bool (by decide +kernel) rfl) pa_nil)))))))), ?_⟩
    refine ⟨_, rfl, _, _, _, _, true, rfl, .ty "int", .base (.int i), kit_ty (by decide +kernel), true, rfl, iteT ?_⟩
    exact ⟨_, rfl, _, _, _, _, false, rfl, .ty "bool", .base (.int i), kit_ty (by decide +kernel), false, rfl, q⟩

abbrev s_law_number : Stmt := topS 9
abbrev N_law_number : List Str := ["cell"]
theorem sc_law_number : FnScope N_law_number ["cell"] (defScope s_law_number) := ⟨rfl, rfl, rfl, by decide +kernel, rfl, by decide +kernel, by decide +kernel⟩
theorem num_at : ∀ j : Nat, j < 8 → ∃ n : Nat, 1 ≤ n ∧ n ≤ 1000 ∧ n ∈ [512, 729, 625, 1000, 997, 720, 900, 961] ∧ [V.int 512, .int 729, .int 625, .int 1000, .int 997, .int 720, .int 900, .int 961][j]? = some (.int n)
  | 0, _ => ⟨512, by decide, by decide, by decide, rfl⟩
  | 1, _ => ⟨729, by decide, by decide, by decide, rfl⟩
  | 2, _ => ⟨625, by decide, by decide, by decide, rfl⟩
  | 3, _ => ⟨1000, by decide, by decide, by decide, rfl⟩
  | 4, _ => ⟨997, by decide, by decide, by decide, rfl⟩
  | 5, _ => ⟨720, by decide, by decide, by decide, rfl⟩
  | 6, _ => ⟨900, by decide, by decide, by decide, rfl⟩
  | 7, _ => ⟨961, by decide, by decide, by decide, rfl⟩
def sp_law_number (K : PySem.W.Frag) (_ : ErrA) : Sp := fun vs H Q _ => ∃ z : Int, vs = [.int z] ∧ ∀ (n : Nat) H', 1 ≤ n → n ≤ 1000 → (n ≤ 120 ∨ n ∈ [512, 729, 625, 1000, 997, 720, 900, 961]) → Same H H' → Q (.int n) H'
theorem ok_law_number (D : Stands K mg "_law_number" s_law_number) (B : Bi mg) (Er : ErrOk K mg e) : Keeps P w K mg base 1 "_law_number" ["cell"] (sp_law_number K e) := by
  obtain ⟨f, fd, F, mF⟩ := D
  refine ⟨f, fd, ?_, F.binds (ps := ["cell"]) (fun _ _ _ _ _ _ us hl => match us, hl with | [_], _ => rfl), mF, F.kp⟩
  refine toX (F.ok sc_law_number (fun vs H Q E h => ?_) (fun cdv A outer s H vs Q E hr h => ?_))
  · obtain ⟨z, rfl, q⟩ := h
    rfl
  · obtain ⟨z, rfl, q⟩ := h
    refine ⟨_, (pss_cons (ps_if (pt_cmpR op_eq (pe_op op_mod (pv 0) pe_int) pe_int (nomark _)) (pss_one (ps_ret (pe_ix ix_list (pe_lst (pa_cons pe_int (pa_cons pe_int (pa_cons pe_int (pa_cons pe_int (pa_cons pe_int (pa_cons pe_int (pa_cons pe_int (pa_cons pe_int pa_nil))))))))) (pe_op op_mod (pe_op op_fdivP (pv 0) pe_int) pe_int) (fun _ _ => rfl)))) pss_nil)
      (pss_one (ps_ret (pe_op op_add pe_int (pe_op op_mod (pe_op op_fdivP (pv 0) pe_int) pe_int))))), ?_⟩
    refine ⟨_, rfl, _, _, rfl, rfl, by show (0 : Int) < 8; decide, rfl, _, rfl, ite2 (fun c => ?_) (fun c => ?_)⟩
    · refine ⟨by show 8 ≤ sizeLine; decide, fun p np => ?_⟩
      obtain ⟨n, n1, n2, n3, en⟩ := num_at (z / 8 % 8).toNat (by omega)
      refine ⟨_, rfl, _, _, rfl, rfl, (Sz.lit : Sz 4 8).cd (by decide), _, _, rfl, rfl, by show (0 : Int) < 8; decide, p, _, _, _, rfl, rfl, SqL.of upd_same, at_of (j := (z / 8 % 8).toNat) (by omega) en, ?_⟩
      exact q n _ n1 n2 (.inr n3) (same_new np)
    · refine ⟨_, rfl, _, _, rfl, rfl, (Sz.lit : Sz 4 8).cd (by decide), _, _, rfl, rfl, by show (0 : Int) < 120; decide, _, _, rfl, rfl, ?_⟩
      have k := q (1 + z / 8 % 120).toNat H (by omega) (by omega) (.inl (by omega)) (Same.refl _)
      rw [show (((1 + z / 8 % 120).toNat : Nat) : Int) = 1 + z / 8 % 120 by omega] at k
      exact k

abbrev s_law_sums : Stmt := topS 10
abbrev N_law_sums : List Str := ["row", "most", "found", "number", "total"]
theorem sc_law_sums : FnScope N_law_sums ["row", "most"] (defScope s_law_sums) := ⟨rfl, rfl, rfl, by decide +kernel, rfl, by decide +kernel, by decide +kernel⟩
def sp_law_sums (K : PySem.W.Frag) (_ : ErrA) : Sp := fun vs H Q _ => ∃ (a : Addr) (row : List Int) (m : Int), vs = [.ref a, .int m] ∧ SqL K H a (row.map V.int) ∧ Row 1000 row ∧ row.length ≤ 1000 ∧
  ∀ H' p, Same H H' → H p = none → H' p = some (.dK (kvI (tabs (fun x => decide (x ≤ m)) row row.length))) → Q (.ref p) H'
theorem ok_law_sums (D : Stands K mg "_law_sums" s_law_sums) (B : Bi mg) (Er : ErrOk K mg e) : Keeps P w K mg base 1 "_law_sums" ["row", "most"] (sp_law_sums K e) := by
  obtain ⟨f, fd, F, mF⟩ := D
  refine ⟨f, fd, ?_, F.binds (ps := ["row", "most"]) (fun _ _ _ _ _ _ us hl => match us, hl with | [_, _], _ => rfl), mF, F.kp⟩
  refine toX (F.ok sc_law_sums (fun vs H Q E h => ?_) (fun cdv A outer s H vs Q E hr h => ?_))
  · obtain ⟨a, row, m, rfl, hS, hr0, hl, q⟩ := h
    rfl
  · obtain ⟨a, row, m, rfl, hS, hr0, hl, q⟩ := h
    refine ⟨_, (pss_cons (ps_set (i := 2) sc_law_sums.nd rfl (Or.inl rfl) (pe_disp (pps_cons pe_int pe_bl pps_nil) (by rfl) (by rfl) (fun z => by cases z) (by decide)))
      (pss_cons (ps_for PassesOwn.never rfl (pi_list (pv 0)) (pg_name (i := 3) sc_law_sums.nd rfl (Or.inl rfl)) (pss_one (ps_for PassesOwn.never rfl (pi_list (pe_callTy (call_listD rfl) (by rfl) B.list (by decide +kernel) (pa_cons (pv 2) pa_nil))) (pg_name (i := 4) sc_law_sums.nd rfl (Or.inl rfl)) (pss_one (ps_if (pt_cmpR op_le (pe_op op_add (pv 4) (pv 3)) (pv 1) (nomark _)) (pss_one (ps_dput (hu_of hr) (pv 2) (pe_op op_add (pv 4) (pv 3)) pe_bl rfl)) pss_nil)))))
      (pss_one (ps_ret (pv 2))))), ?_⟩
    refine fun M nM => ⟨upd_same, [(Sum.inl 0, .bl true)], rfl, by decide, ?_⟩
    have s0 : Same H (upd (upd H M (.dK [])) M (.dK (mergeK [] [(Sum.inl 0, .bl true)]))) := same_mut (same_new nM) nM
    have e0 : (upd (upd H M (.dK [])) M (.dK (mergeK [] [(Sum.inl 0, .bl true)]))) M = some (.dK (kvI (tabs (fun x => decide (x ≤ m)) row 0))) := upd_same
    generalize (upd (upd H M (.dK [])) M (.dK (mergeK [] [(Sum.inl 0, .bl true)]))) = H0 at s0 e0
    refine ⟨_, rfl, a, rfl, ⟨_, s0.seq hS⟩, for_list (K := K) (a := a) (xs := row.map V.int) (fun i σ H' => Same H H' ∧ H' M = some (.dK (kvI (tabs (fun x => decide (x ≤ m)) row i))) ∧ ∃ v1 v2 : Option V, σ = [some (.ref a), some (.int m), some (.ref M), v1, v2])
      ⟨s0, e0, none, none, rfl⟩ (fun i σ H' _ h => h.1.seq hS) ?_ ?_⟩
    · rintro i y σ H1 hy ⟨s1, e1, v1, v2, rfl⟩
      obtain ⟨n, en, rfl⟩ := of_get_map hy
      have hi := lt_of_get en
      refine ⟨_, rfl, M, _, rfl, .inl e1, fun L nL => ?_⟩
      rw [kvI_keys]
      have s2 : Same H1 (upd H1 L (.lst ((tabs (fun x => decide (x ≤ m)) row i).map V.int))) := same_new nL
      have eL : (upd H1 L (.lst ((tabs (fun x => decide (x ≤ m)) row i).map V.int))) L = some (.lst ((tabs (fun x => decide (x ≤ m)) row i).map V.int)) := upd_same
      have eM := s2 _ _ e1
      generalize (upd H1 L (.lst ((tabs (fun x => decide (x ≤ m)) row i).map V.int))) = H2 at s2 eL eM
      have LM : L ≠ M := ne_of eL eM (fun z => by cases z)
      refine ⟨L, rfl, ⟨_, SqL.of eL⟩, for_list (K := K) (a := L) (xs := (tabs (fun x => decide (x ≤ m)) row i).map V.int) (fun j σ H' => Same H H' ∧ H' L = some (.lst ((tabs (fun x => decide (x ≤ m)) row i).map V.int)) ∧
        H' M = some (.dK (kvI (addP (fun x => decide (x ≤ m)) n (tabs (fun x => decide (x ≤ m)) row i) ((tabs (fun x => decide (x ≤ m)) row i).take j)))) ∧ ∃ v : Option V, σ = [some (.ref a), some (.int m), some (.ref M), some (.int n), v])
        ⟨s1.trans s2, eL, eM, v2, rfl⟩ (fun j σ H' _ h => SqL.of h.2.1) ?_ ?_⟩
      · rintro j y σ H4 hy ⟨s4, eL4, eM4, v, rfl⟩
        obtain ⟨x, ex, rfl⟩ := of_get_map hy
        refine ⟨_, rfl, _, rfl, _, _, rfl, rfl, _, rfl, _, _, rfl, rfl, _, rfl, ite2 (fun c => ?_) (fun c => ?_)⟩
        · refine ⟨_, rfl, _, rfl, _, rfl, _, _, rfl, rfl, M, _, rfl, DPut.k (k := Sum.inl (x + n)) eM4 ?_, ?_⟩
          · rw [kvI_len]
            have := addP_len (p := fun x => decide (x ≤ m)) (n := n) (ks := tabs (fun x => decide (x ≤ m)) row i) ((tabs (fun x => decide (x ≤ m)) row i).take j)
            have h1 := tabs_len (p := fun x => decide (x ≤ m)) hr0 (k := i) (by omega)
            have h2 : ((tabs (fun x => decide (x ≤ m)) row i).take j).length ≤ (tabs (fun x => decide (x ≤ m)) row i).length := by
              rw [List.length_take]
              exact Nat.min_le_right _ _
            exact szl_lt (by omega)
          · refine ⟨same_mut s4 nM, ?_, ?_, _, rfl⟩
            · rw [upd_ne LM]
              exact eL4
            · rw [upd_same, put_kv, take_snoc ex, addP_snoc, if_pos c]
        · refine ⟨s4, eL4, ?_, _, rfl⟩
          rw [take_snoc ex, addP_snoc, if_neg c]
          exact eM4
      · rintro σ H4 ⟨s4, eL4, eM4, v, rfl⟩
        rw [List.length_map, List.take_length, ← tabs_at en] at eM4
        exact ⟨s4, eM4, _, _, rfl⟩
    · rintro σ H1 ⟨s1, e1, v1, v2, rfl⟩
      rw [List.length_map] at e1
      exact ⟨_, rfl, q H1 M s1 nM e1⟩

abbrev s_law : Stmt := topS 11
abbrev N_law : List Str := ["script", "number", "sums", "due", "found", "truth", "wanted", "told", "part", "k"]
theorem sc_law : FnScope N_law ["script"] (defScope s_law) := ⟨rfl, rfl, rfl, by decide +kernel, rfl, by decide +kernel, by decide +kernel⟩
def sp_law (K : PySem.W.Frag) : Sp := fun vs H Q _ => ∃ (a : Addr) (ns : List Int), vs = [.ref a] ∧ SqL K H a (ns.map V.int) ∧ ns.length ≤ 63 ∧ ∀ H', Q (.bl true) H'
theorem ok_law {f : Addr} {fd : FuncData} (F : Fun K "law" "law" s_law f fd) (B : Bi mg) (Er : ErrOk K mg e)
    (h_law_number : Keeps P w K mg base 1 "_law_number" ["cell"] (sp_law_number K e))
    (h_law_sums : Keeps P w K mg base 1 "_law_sums" ["row", "most"] (sp_law_sums K e))
    (h_least_lack : Keeps P w K mg base 2 "least_lack" ["number"] (sp_least_lack K e))
    (h_handy : Keeps P w K mg base 3 "handy" ["number"] (sp_handy K e))
    (h_parts : Keeps P w K mg base 2 "parts" ["number", "wanted"] (sp_parts K e))
    (h_law_cell_at : Keeps P w K mg base 1 "_law_cell_at" ["script", "k"] (sp_law_cell_at K e))
    (h_law_whole : Keeps P w K mg base 1 "_law_whole" ["found"] (sp_law_whole K e)) : FnOk P w K mg base CX0 4 f fd ["script"] (sp_law K) := by
  obtain ⟨f_law_number, fd_law_number, G_law_number, b_law_number, m_law_number, k_law_number⟩ := h_law_number
  obtain ⟨f_law_sums, fd_law_sums, G_law_sums, b_law_sums, m_law_sums, k_law_sums⟩ := h_law_sums
  obtain ⟨f_least_lack, fd_least_lack, G_least_lack, b_least_lack, m_least_lack, k_least_lack⟩ := h_least_lack
  obtain ⟨f_handy, fd_handy, G_handy, b_handy, m_handy, k_handy⟩ := h_handy
  obtain ⟨f_parts, fd_parts, G_parts, b_parts, m_parts, k_parts⟩ := h_parts
  obtain ⟨f_law_cell_at, fd_law_cell_at, G_law_cell_at, b_law_cell_at, m_law_cell_at, k_law_cell_at⟩ := h_law_cell_at
  obtain ⟨f_law_whole, fd_law_whole, G_law_whole, b_law_whole, m_law_whole, k_law_whole⟩ := h_law_whole
  refine F.ok sc_law (fun vs H Q E h => ?_) (fun cdv A outer s H vs Q E hr h => ?_)
  · obtain ⟨a, ns, rfl, _⟩ := h
    rfl
  · obtain ⟨a, ns, rfl, hS, hlen, kq⟩ := h
    refine ⟨_, (pss_cons (ps_set (i := 1) sc_law.nd rfl (Or.inr rfl) (pe_call G_law_number (hr.mono (by decide)) (by rfl) m_law_number k_law_number b_law_number .nil passL (pa_cons (pe_call G_law_cell_at (hr.mono (by decide)) (by rfl) m_law_cell_at k_law_cell_at b_law_cell_at .nil passL (pa_cons (pv 0) (pa_cons pe_int pa_nil))) pa_nil)))
      (pss_cons (ps_set (i := 2) sc_law.nd rfl (Or.inl rfl) (pe_call G_law_sums (hr.mono (by decide)) (by rfl) m_law_sums k_law_sums b_law_sums .nil passL (pa_cons (pe_lc (own := [("k", 9)]) (g := gName 9) (tt := _) (by rfl) sc_law.nd (pi_range2 (by rfl) B.range (pa_cons pe_int (pa_cons (pe_op op_add (pv 1) pe_int) pa_nil))) (blkOk_by (N := N_law) (sc := defScope s_law) (by decide +kernel)) (fun _ _ _ _ _ => pg_name (i := 9) sc_law.nd rfl (Or.inl rfl)) (fun _ _ _ _ _ => (pts_one (pt_cmpR op_eq (pe_op op_mod (pv 1) (pv 9)) pe_int (nomark _)))) (fun _ _ _ _ _ => (pv 9))) (pa_cons pe_int pa_nil))))
      (pss_cons (ps_set (i := 3) sc_law.nd rfl (Or.inl rfl) pe_int)
      (pss_cons (ps_while PassesOwn.never (pt_cmp (pc_din (hu_of hr) (pv 3) (pv 2))) (pss_one (ps_set (i := 3) sc_law.nd rfl (Or.inl rfl) (pe_op op_add (pv 3) pe_int))))
      (pss_cons (ps_set (i := 4) sc_law.nd rfl (Or.inl rfl) (pe_call G_least_lack (hr.mono (by decide)) (by rfl) m_least_lack k_least_lack b_least_lack .nil passL (pa_cons (pv 1) pa_nil)))
      (pss_cons (ps_set (i := 5) sc_law.nd rfl (Or.inl rfl) (pe_call G_handy (hr.mono (by decide)) (by rfl) m_handy k_handy b_handy .nil passL (pa_cons (pv 1) pa_nil)))
      (pss_cons (ps_if (PW.pt (pw_or (pt_not (pt_val (pe_call G_law_whole (hr.mono (by decide)) (by rfl) m_law_whole k_law_whole b_law_whole .nil passL (pa_cons (pv 4) pa_nil)))) (pw_or (pt_cmpR op_ne (pv 4) (pv 3) (nomark _)) (pw_or (pt_not (pt_val (pe_callB call_isi (by rfl) B.isinstance (by decide +kernel) (pa_cons (pv 5) (pa_cons (pe_bltn (v := .ty "bool") (by rfl) B.bool (by decide +kernel) rfl) pa_nil))))) (pw_or1 (pt_cmpR op_ne (pv 5) (pe_cmpR op_gt (pv 3) (pv 1) (nomark _)) (nomark _))))))) (pss_one (ps_ret pe_bl)) pss_nil)
      (pss_cons (ps_set (i := 6) sc_law.nd rfl (Or.inl rfl) (pe_op op_mod (pe_call G_law_cell_at (hr.mono (by decide)) (by rfl) m_law_cell_at k_law_cell_at b_law_cell_at .nil passL (pa_cons (pv 0) (pa_cons pe_int pa_nil))) (pv 3)))
      (pss_cons (ps_set (i := 7) sc_law.nd rfl (Or.inl rfl) (pe_call G_parts (hr.mono (by decide)) (by rfl) m_parts k_parts b_parts .nil passL (pa_cons (pv 1) (pa_cons (pv 6) pa_nil))))
      (pss_cons (ps_if (PW.pt (pw_or (pt_not (pt_val (pe_callB call_isi (by rfl) B.isinstance (by decide +kernel) (pa_cons (pv 7) (pa_cons (pe_bltn (v := .ty "list") (by rfl) B.list (by decide +kernel) rfl) pa_nil))))) (pw_or (pt_cmpR op_ne (pe_callB (cr_sum rfl) (by rfl) B.sum (by decide +kernel) (pa_cons (pv 7) pa_nil)) (pv 6) (nomark _)) (pw_or1 (pt_cmpR op_ne (RZ.pe_lenSetI (by rfl) B.len (by rfl) B.set (pv 7)) (pe_callB call_len_seq (by rfl) B.len (by decide +kernel) (pa_cons (pv 7) pa_nil)) (nomark _)))))) (pss_one (ps_ret pe_bl)) pss_nil)
      (pss_cons (ps_for PassesOwn.never rfl (pi_list (pv 7)) (pg_name (i := 8) sc_law.nd rfl (Or.inl rfl)) (pss_one (ps_if (PW.pt (pw_or (pt_not (pt_val (pe_call G_law_whole (hr.mono (by decide)) (by rfl) m_law_whole k_law_whole b_law_whole .nil passL (pa_cons (pv 8) pa_nil)))) (pw_or (pt_cmpR op_lt (pv 8) pe_int (nomark _)) (pw_or1 (pt_cmpR op_gt (pe_op op_mod (pv 1) (pv 8)) pe_int (nomark _)))))) (pss_one (ps_ret pe_bl)) pss_nil)))
      (pss_one (ps_ret (pe_cmpR op_isN (pe_call G_parts (hr.mono (by decide)) (by rfl) m_parts k_parts b_parts .nil passL (pa_cons (pv 1) (pa_cons (pv 3) pa_nil))) pe_non (nomark _))))))))))))))), ?_⟩
    refine ⟨_, rfl, a, ns, 0, rfl, hS, hlen, _, rfl, fun n H1 n1 n2 n3 s1 => ?_⟩
    have hl := divs_len n
    have hr0 : Row 1000 (divs n) := row_divs (by omega)
    refine ⟨_, rfl, _, _, rfl, rfl, _, _, rfl, ⟨by omega, by omega, by omega, by omega⟩, fun D hD => ?_⟩
    refine lc_range (lo := 1) (n := _) (fun i H' => Same H1 H' ∧ H' D = some (.lst (((upto i).filter fun k => decide ((n : Int) % k = 0)).map V.int))) ⟨same_new hD, upd_same⟩ ?_ ?_
    · rintro i H' hi ⟨hs, he⟩
      refine ⟨rfl, _, rfl, _, rfl, _, _, rfl, rfl, by omega, rfl, _, rfl, ite2 (fun c => ?_) (fun c => ?_)⟩
      · have c := V.int.inj (of_decide_eq_true c)
        refine ⟨_, rfl, _, he, ?_, same_mut hs hD, ?_⟩
        · rw [List.length_map]
          refine szl_lt (Nat.lt_of_le_of_lt (List.length_filter_le _ _) ?_)
          rw [upto_length]
          omega
        · rw [upd_same, upto_succ, fil_yes, List.map_append]
          · exact rfl
          · exact c
      · refine ⟨hs, ?_⟩
        rw [he, upto_succ, fil_no]
        exact fun z => c (decide_eq_true (congrArg V.int z))
    rintro H2 ⟨s2, er⟩
    have e0 : ((n : Int) + 1 - 1).toNat = n := by omega
    rw [e0] at er
    have er : H2 D = some (.lst ((divs n).map V.int)) := er
    refine ⟨D, divs n, 4000, rfl, SqL.of er, hr0, by omega, fun H3 M s3 nM eM => ?_⟩
    have s13 := s1.trans (s2.trans s3)
    refine while_by (fun σ H' => H' = H3 ∧ ∃ l : Int, σ = [some (.ref a), some (.int n), some (.ref M), some (.int l), none, none, none, none, none, none] ∧ 1 ≤ l ∧ ∀ x : Int, 1 ≤ x → x < l → x ∈ tabs (fun x => decide (x ≤ 4000)) (divs n) (divs n).length)
      (fun σ _ => match σ with | _ :: _ :: _ :: some (.int l) :: _ => (1000002 - l).toNat | _ => 0) ⟨rfl, 1, rfl, by decide, fun x h1 h2 => absurd h2 (by omega)⟩ ?_ ?_
    · rintro σ H' ⟨rfl, l, rfl, l1, la⟩
      refine ⟨_, rfl, _, rfl, M, _, rfl, DGet.k (k := Sum.inl l) eM, _, rfl, ?_⟩
      rw [val_kv]
      refine ite2 (fun c => ?_) (fun c => ?_)
      · have c := of_decide_eq_true c
        have lb := (tabs_in (p := fun x => decide (x ≤ 4000)) hr0 (by decide) (divs n).length).2 _ c
        refine ⟨_, rfl, _, _, rfl, rfl, ⟨rfl, l + 1, rfl, by omega, lack_step l1 la c⟩, ?_⟩
        show (1000002 - (l + 1)).toNat < (1000002 - l).toNat
        omega
      · have lk : Lack (tabs (fun _ => true) (divs n) (divs n).length) l := Lack.lid hr0 (sig_of n3) ⟨l1, fun z => c (decide_eq_true z), la⟩
        clear la c
        refine ⟨_, rfl, n, rfl, n1, n2, fun H4 L s4 gL => ?_⟩
        obtain rfl := gL.uniq lk
        refine ⟨_, rfl, n, rfl, n1, n2, fun H5 M s5 gM => ?_⟩
        obtain rfl := gM.uniq lk
        refine ⟨_, rfl, _, rfl, _, rfl, ?_⟩
        show if (!true) = true then _ else _
        refine iteF ?_
        refine ⟨_, rfl, _, rfl, rfl, _, rfl, ?_⟩
        rw [decide_eq_true rfl]
        show if (!true) = true then _ else _
        refine iteF ?_
        refine ⟨_, rfl, _, _, _, _, true, rfl, .ty "bool", .base (.bl _), kit_ty (by decide +kernel), true, rfl, ?_⟩
        show if (!true) = true then _ else _
        refine iteF ?_
        refine ⟨_, rfl, _, rfl, _, rfl, _, _, rfl, rfl, rfl, _, rfl, ?_⟩
        rw [decide_eq_true rfl]
        show if (!true) = true then _ else _
        refine iteF ?_
        have s15 := s13.trans (s4.trans s5)
        have m1 := Int.emod_nonneg (cell ns 1) (b := M) (by omega)
        have m2 := Int.emod_lt_of_pos (cell ns 1) (b := M) (by omega)
        refine ⟨_, rfl, a, ns, 1, rfl, s15.seq hS, hlen, _, rfl, _, _, rfl, rfl, by show 0 < M; omega, ?_⟩
        show (tSeq _ _) _ [some (.ref a), some (.int n), some (.ref _), some (.int M), some (.int M), some (.bl _), some (.int (cell ns 1 % M)), none, none, none] H5
        generalize cell ns 1 % M = w at m1 m2
        have wm : w ∈ tabs (fun _ => true) (divs n) (divs n).length := by
          by_cases z : w = 0
          · rw [z]
            exact zero_tabs _
          · exact lk.all w (by omega) m2
        refine ⟨_, rfl, _, rfl, n, w, rfl, n1, n2, m1, fun H6 s6 => ?_⟩
        obtain ⟨l, ep⟩ : ∃ l, partsF n w = some l := ⟨_, if_pos wm⟩
        rw [ep]
        refine fun T nT eT => ?_
        obtain ⟨p1, p2, p3, p4⟩ := partsF_some ep m1
        refine ⟨_, rfl, _, _, _, _, true, rfl, .ty "list", ty_list (SqL.of eT), kit_ty (by decide +kernel), true, rfl, ?_⟩
        show if (!true) = true then _ else _
        refine iteF ?_
        refine ⟨_, rfl, T, l, rfl, SqL.of eT, _, rfl, rfl, _, rfl, ?_⟩
        rw [show decide (V.int l.sum = V.int w) = true from decide_eq_true (by rw [p1])]
        show if (!true) = true then _ else _
        refine iteF ?_
        refine ⟨_, rfl, T, l, rfl, SqL.of eT, nodup_falls p2, by omega, _, rfl, T, _, rfl, .inl (SqL.of eT), rfl, _, rfl, ?_⟩
        rw [List.length_map, show decide (V.int (l.length : Int) = V.int (l.length : Int)) = true from decide_eq_true rfl]
        show if (!true) = true then _ else _
        refine iteF ?_
        refine ⟨_, rfl, T, rfl, ⟨_, SqL.of eT⟩, for_list (K := K) (a := T) (xs := l.map V.int) (fun i σ H' => H' = H6 ∧ ∃ v : Option V, σ = [some (.ref a), some (.int n), some (.ref _), some (.int M), some (.int M), some (.bl _), some (.int w), some (.ref T), v, none])
          ⟨rfl, none, rfl⟩ (fun i σ H' _ h => h.1 ▸ SqL.of eT) ?_ ?_⟩
        · rintro i y σ H7 hy ⟨rfl, v, rfl⟩
          obtain ⟨x, ex, rfl⟩ := of_get_map hy
          have hx := mem_divs.mp (p3 x (List.mem_of_getElem? ex))
          refine ⟨_, rfl, _, rfl, _, rfl, ?_⟩
          show if (!true) = true then _ else _
          refine iteF ?_
          refine ⟨_, rfl, _, _, rfl, rfl, _, rfl, ?_⟩
          rw [show decide (x < 1) = false from decide_eq_false (by omega)]
          refine iteF ?_
          refine ⟨_, rfl, _, rfl, _, _, rfl, rfl, by omega, _, _, rfl, rfl, _, rfl, ?_⟩
          rw [hx.2]
          refine iteF ?_
          exact ⟨rfl, _, rfl⟩
        · rintro σ H7 ⟨rfl, v, rfl⟩
          refine ⟨_, rfl, _, rfl, n, M, rfl, n1, n2, by omega, fun H8 s8 => ?_⟩
          rw [show partsF n M = none from if_neg lk.no]
          refine ⟨rfl, ?_⟩
          rw [decide_eq_true rfl]
          exact kq _
    · rintro σ H' Q1 Q2 hq ⟨v, e1, u, e2, a, o, e3, g, c, e4, q⟩
      exact ⟨v, e1, u, e2, a, o, e3, g, c, e4, hq _ _ q⟩

end

theorem all_mk {l : PySem.W.OpenLaw} {w : World} {K : PySem.W.Frag} {h : Heap} {mg : Str → Option Value} {fa : Addr} (X : K.In h) (G : h.Ns mainGlobals mg) (hfa : mg "law" = some (.ref fa))
    {f0 : Addr} {od0 an0 : Option Addr} {sl0 : Array (Option Value)} {oc0 kV0 dc0 pm0 cd0 ct0 : Value}
    {f1 : Addr} {od1 an1 : Option Addr} {sl1 : Array (Option Value)} {oc1 kV1 dc1 pm1 cd1 ct1 : Value}
    {f2 : Addr} {od2 an2 : Option Addr} {sl2 : Array (Option Value)} {oc2 kV2 dc2 pm2 cd2 ct2 : Value}
    {f3 : Addr} {od3 an3 : Option Addr} {sl3 : Array (Option Value)} {oc3 kV3 dc3 pm3 cd3 ct3 : Value}
    {f4 : Addr} {od4 an4 : Option Addr} {sl4 : Array (Option Value)} {oc4 kV4 dc4 pm4 cd4 ct4 : Value}
    {f5 : Addr} {od5 an5 : Option Addr} {sl5 : Array (Option Value)} {oc5 kV5 dc5 pm5 cd5 ct5 : Value}
    {f6 : Addr} {od6 an6 : Option Addr} {sl6 : Array (Option Value)} {oc6 kV6 dc6 pm6 cd6 ct6 : Value}
    {f7 : Addr} {od7 an7 : Option Addr} {sl7 : Array (Option Value)} {oc7 kV7 dc7 pm7 cd7 ct7 : Value}
    {f8 : Addr} {od8 an8 : Option Addr} {sl8 : Array (Option Value)} {oc8 kV8 dc8 pm8 cd8 ct8 : Value}
    {f9 : Addr} {od9 an9 : Option Addr} {sl9 : Array (Option Value)} {oc9 kV9 dc9 pm9 cd9 ct9 : Value}
    (a0 : PySem.W.nsIn K mainGlobals "divisors" = some (some (.ref f0)))
    (l0 : K.lookup f0 = some ⟨oc0, od0, .func (PySem.W.fnOf "divisors" "divisors" (defArgs s_divisors) (defBody s_divisors) (defScope s_divisors) .none kV0 dc0 pm0 an0 cd0 ct0), sl0⟩)
    (c0 : PySem.W.codeIn K cd0 "divisors" = true)
    (k0 : PySem.W.keepIn K (.ref f0) = true)
    (a1 : PySem.W.nsIn K mainGlobals "sums_of" = some (some (.ref f1)))
    (l1 : K.lookup f1 = some ⟨oc1, od1, .func (PySem.W.fnOf "sums_of" "sums_of" (defArgs s_sums_of) (defBody s_sums_of) (defScope s_sums_of) .none kV1 dc1 pm1 an1 cd1 ct1), sl1⟩)
    (c1 : PySem.W.codeIn K cd1 "sums_of" = true)
    (k1 : PySem.W.keepIn K (.ref f1) = true)
    (a2 : PySem.W.nsIn K mainGlobals "parts" = some (some (.ref f2)))
    (l2 : K.lookup f2 = some ⟨oc2, od2, .func (PySem.W.fnOf "parts" "parts" (defArgs s_parts) (defBody s_parts) (defScope s_parts) .none kV2 dc2 pm2 an2 cd2 ct2), sl2⟩)
    (c2 : PySem.W.codeIn K cd2 "parts" = true)
    (k2 : PySem.W.keepIn K (.ref f2) = true)
    (a3 : PySem.W.nsIn K mainGlobals "least_lack" = some (some (.ref f3)))
    (l3 : K.lookup f3 = some ⟨oc3, od3, .func (PySem.W.fnOf "least_lack" "least_lack" (defArgs s_least_lack) (defBody s_least_lack) (defScope s_least_lack) .none kV3 dc3 pm3 an3 cd3 ct3), sl3⟩)
    (c3 : PySem.W.codeIn K cd3 "least_lack" = true)
    (k3 : PySem.W.keepIn K (.ref f3) = true)
    (a4 : PySem.W.nsIn K mainGlobals "handy" = some (some (.ref f4)))
    (l4 : K.lookup f4 = some ⟨oc4, od4, .func (PySem.W.fnOf "handy" "handy" (defArgs s_handy) (defBody s_handy) (defScope s_handy) .none kV4 dc4 pm4 an4 cd4 ct4), sl4⟩)
    (c4 : PySem.W.codeIn K cd4 "handy" = true)
    (k4 : PySem.W.keepIn K (.ref f4) = true)
    (a5 : PySem.W.nsIn K mainGlobals "_law_cell_at" = some (some (.ref f5)))
    (l5 : K.lookup f5 = some ⟨oc5, od5, .func (PySem.W.fnOf "_law_cell_at" "_law_cell_at" (defArgs s_law_cell_at) (defBody s_law_cell_at) (defScope s_law_cell_at) .none kV5 dc5 pm5 an5 cd5 ct5), sl5⟩)
    (c5 : PySem.W.codeIn K cd5 "_law_cell_at" = true)
    (k5 : PySem.W.keepIn K (.ref f5) = true)
    (a6 : PySem.W.nsIn K mainGlobals "_law_whole" = some (some (.ref f6)))
    (l6 : K.lookup f6 = some ⟨oc6, od6, .func (PySem.W.fnOf "_law_whole" "_law_whole" (defArgs s_law_whole) (defBody s_law_whole) (defScope s_law_whole) .none kV6 dc6 pm6 an6 cd6 ct6), sl6⟩)
    (c6 : PySem.W.codeIn K cd6 "_law_whole" = true)
    (k6 : PySem.W.keepIn K (.ref f6) = true)
    (a7 : PySem.W.nsIn K mainGlobals "_law_number" = some (some (.ref f7)))
    (l7 : K.lookup f7 = some ⟨oc7, od7, .func (PySem.W.fnOf "_law_number" "_law_number" (defArgs s_law_number) (defBody s_law_number) (defScope s_law_number) .none kV7 dc7 pm7 an7 cd7 ct7), sl7⟩)
    (c7 : PySem.W.codeIn K cd7 "_law_number" = true)
    (k7 : PySem.W.keepIn K (.ref f7) = true)
    (a8 : PySem.W.nsIn K mainGlobals "_law_sums" = some (some (.ref f8)))
    (l8 : K.lookup f8 = some ⟨oc8, od8, .func (PySem.W.fnOf "_law_sums" "_law_sums" (defArgs s_law_sums) (defBody s_law_sums) (defScope s_law_sums) .none kV8 dc8 pm8 an8 cd8 ct8), sl8⟩)
    (c8 : PySem.W.codeIn K cd8 "_law_sums" = true)
    (k8 : PySem.W.keepIn K (.ref f8) = true)
    (a9 : PySem.W.nsIn K mainGlobals "law" = some (some (.ref f9)))
    (l9 : K.lookup f9 = some ⟨oc9, od9, .func (PySem.W.fnOf "law" "law" (defArgs s_law) (defBody s_law) (defScope s_law) .none kV9 dc9 pm9 an9 cd9 ct9), sl9⟩)
    (c9 : PySem.W.codeIn K cd9 "law" = true)
    (k9 : PySem.W.keepIn K (.ref f9) = true)
    (z0 : PySem.W.nsIn K mainGlobals "len" = some none)
    (z1 : PySem.W.nsIn K mainGlobals "range" = some none)
    (z2 : PySem.W.nsIn K mainGlobals "min" = some none)
    (z3 : PySem.W.nsIn K mainGlobals "max" = some none)
    (z4 : PySem.W.nsIn K mainGlobals "sum" = some none)
    (z5 : PySem.W.nsIn K mainGlobals "sorted" = some none)
    (z6 : PySem.W.nsIn K mainGlobals "set" = some none)
    (z7 : PySem.W.nsIn K mainGlobals "dict" = some none)
    (z8 : PySem.W.nsIn K mainGlobals "list" = some none)
    (z9 : PySem.W.nsIn K mainGlobals "str" = some none)
    (z10 : PySem.W.nsIn K mainGlobals "int" = some none)
    (z11 : PySem.W.nsIn K mainGlobals "isinstance" = some none)
    (z12 : PySem.W.nsIn K mainGlobals "bool" = some none)
    (z13 : PySem.W.nsIn K mainGlobals "tuple" = some none)
    (z14 : PySem.W.nsIn K mainGlobals "ValueError" = some none)
    : ∃ fd : FuncData, (∀ (s : Shared) (v : Value), BindsTo s fd ⟨[v], []⟩ [("script", v)]) ∧ ∀ base : Heap, K.In base → base.Ns mainGlobals mg → FnOk l.prog w K mg base CX0 4 fa fd ["script"] (sp_law K) := by
  have ef := hfa.symm.trans (PySem.W.mg_of X G a9)
  cases ef
  have B : Bi mg := ⟨PySem.W.mg_none_of X G z0, PySem.W.mg_none_of X G z1, PySem.W.mg_none_of X G z2, PySem.W.mg_none_of X G z3, PySem.W.mg_none_of X G z4, PySem.W.mg_none_of X G z5, PySem.W.mg_none_of X G z6, PySem.W.mg_none_of X G z7, PySem.W.mg_none_of X G z8, PySem.W.mg_none_of X G z9, PySem.W.mg_none_of X G z10, PySem.W.mg_none_of X G z11, PySem.W.mg_none_of X G z12, PySem.W.mg_none_of X G z13, PySem.W.mg_none_of X G z14⟩
  have Er : ErrOk K mg ⟨0, 0, 0, 0, 0, 0⟩ := ⟨⟩
  have S_divisors : Stands K mg "divisors" s_divisors := ⟨_, _, fun_mk (st := s_divisors) l0 c0 k0, PySem.W.mg_of X G a0⟩
  have S_sums_of : Stands K mg "sums_of" s_sums_of := ⟨_, _, fun_mk (st := s_sums_of) l1 c1 k1, PySem.W.mg_of X G a1⟩
  have S_parts : Stands K mg "parts" s_parts := ⟨_, _, fun_mk (st := s_parts) l2 c2 k2, PySem.W.mg_of X G a2⟩
  have S_least_lack : Stands K mg "least_lack" s_least_lack := ⟨_, _, fun_mk (st := s_least_lack) l3 c3 k3, PySem.W.mg_of X G a3⟩
  have S_handy : Stands K mg "handy" s_handy := ⟨_, _, fun_mk (st := s_handy) l4 c4 k4, PySem.W.mg_of X G a4⟩
  have S_law_cell_at : Stands K mg "_law_cell_at" s_law_cell_at := ⟨_, _, fun_mk (st := s_law_cell_at) l5 c5 k5, PySem.W.mg_of X G a5⟩
  have S_law_whole : Stands K mg "_law_whole" s_law_whole := ⟨_, _, fun_mk (st := s_law_whole) l6 c6 k6, PySem.W.mg_of X G a6⟩
  have S_law_number : Stands K mg "_law_number" s_law_number := ⟨_, _, fun_mk (st := s_law_number) l7 c7 k7, PySem.W.mg_of X G a7⟩
  have S_law_sums : Stands K mg "_law_sums" s_law_sums := ⟨_, _, fun_mk (st := s_law_sums) l8 c8 k8, PySem.W.mg_of X G a8⟩
  refine ⟨PySem.W.fnOf "law" "law" (defArgs s_law) (defBody s_law) (defScope s_law) .none kV9 dc9 pm9 an9 cd9 ct9, fun s v => .of_eq rfl, fun base _ _ => ?_⟩
  have O_divisors := ok_divisors (P := l.prog) (w := w) (base := base) S_divisors B Er 
  have O_sums_of := ok_sums_of (P := l.prog) (w := w) (base := base) S_sums_of B Er 
  have O_parts := ok_parts (P := l.prog) (w := w) (base := base) S_parts B Er O_divisors O_sums_of
  have O_least_lack := ok_least_lack (P := l.prog) (w := w) (base := base) S_least_lack B Er O_sums_of O_divisors
  have O_handy := ok_handy (P := l.prog) (w := w) (base := base) S_handy B Er O_least_lack
  have O_law_cell_at := ok_law_cell_at (P := l.prog) (w := w) (base := base) S_law_cell_at B Er 
  have O_law_whole := ok_law_whole (P := l.prog) (w := w) (base := base) S_law_whole B Er 
  have O_law_number := ok_law_number (P := l.prog) (w := w) (base := base) S_law_number B Er 
  have O_law_sums := ok_law_sums (P := l.prog) (w := w) (base := base) S_law_sums B Er 
  exact ok_law (P := l.prog) (w := w) (base := base) (fun_mk (st := s_law) l9 c9 k9) B Er O_law_number O_law_sums O_least_lack O_handy O_parts O_law_cell_at O_law_whole
end U
open PySem PySem.W PyProof.Rows
set_option maxHeartbeats 0 in
theorem PySem.Challenge.cw_unitshares_k09_whole_lacks_holds : PySem.Challenge.rw_unitshares_k09_whole_lacks.Holds := by
  w_on; o_law; k_head; (case hw => w_witness2)
  k_fill
  refine L2.walk_of (l := PySem.Challenge.rw_unitshares_k09_whole_lacks) (n := 63) (k := 4) (x := "script") (CX := fun _ => L2.CX0) (sp := fun w => U.sp_law _) rfl (by decide) rfl ⟨rfl, by decide, by decide⟩ (fun w h Y => PySem.W.kIn_of Y) ?F (fun _ _ a ns hl _ hS => ⟨a, ns, rfl, hS, hl, fun _ => rfl⟩) (fun _ _ _ _ _ h => h)
  case F =>
    intro w mg fa h KX G hmg
    refine' U.all_mk KX G hmg ?a0 ?l0 ?c0 ?k0 ?a1 ?l1 ?c1 ?k1 ?a2 ?l2 ?c2 ?k2 ?a3 ?l3 ?c3 ?k3 ?a4 ?l4 ?c4 ?k4 ?a5 ?l5 ?c5 ?k5 ?a6 ?l6 ?c6 ?k6 ?a7 ?l7 ?c7 ?k7 ?a8 ?l8 ?c8 ?k8 ?a9 ?l9 ?c9 ?k9 ?z0 ?z1 ?z2 ?z3 ?z4 ?z5 ?z6 ?z7 ?z8 ?z9 ?z10 ?z11 ?z12 ?z13 ?z14
    (case a0 => k_is)
    (case l0 => k_is)
    (case c0 => k_is)
    (case k0 => k_is)
    (case a1 => k_is)
    (case l1 => k_is)
    (case c1 => k_is)
    (case k1 => k_is)
    (case a2 => k_is)
    (case l2 => k_is)
    (case c2 => k_is)
    (case k2 => k_is)
    (case a3 => k_is)
    (case l3 => k_is)
    (case c3 => k_is)
    (case k3 => k_is)
    (case a4 => k_is)
    (case l4 => k_is)
    (case c4 => k_is)
    (case k4 => k_is)
    (case a5 => k_is)
    (case l5 => k_is)
    (case c5 => k_is)
    (case k5 => k_is)
    (case a6 => k_is)
    (case l6 => k_is)
    (case c6 => k_is)
    (case k6 => k_is)
    (case a7 => k_is)
    (case l7 => k_is)
    (case c7 => k_is)
    (case k7 => k_is)
    (case a8 => k_is)
    (case l8 => k_is)
    (case c8 => k_is)
    (case k8 => k_is)
    (case a9 => k_is)
    (case l9 => k_is)
    (case c9 => k_is)
    (case k9 => k_is)
    (case z0 => k_is)
    (case z1 => k_is)
    (case z2 => k_is)
    (case z3 => k_is)
    (case z4 => k_is)
    (case z5 => k_is)
    (case z6 => k_is)
    (case z7 => k_is)
    (case z8 => k_is)
    (case z9 => k_is)
    (case z10 => k_is)
    (case z11 => k_is)
    (case z12 => k_is)
    (case z13 => k_is)
    (case z14 => k_is)
