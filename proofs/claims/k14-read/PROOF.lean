import PyProof.Rows.All
import Wide.All
import OpenK.AllK
import Wide.FinOn
import HandS.ForMost
import HandS.ForExc
import HandS.More
import HandS.Wide
import HandS.WideBits
import HandS.IsInst
import HandS.SortInts
import HandS.SetFor
import HandS.Strs
import HandS.Zip
import HandS.HotCalls
import HandS.ExcIs
import PySem.Challenge.RW_unitshares_k14_read
set_option Elab.async false
set_option linter.all false
set_option maxRecDepth 100000
set_option maxHeartbeats 4000000
namespace U
open PySem PySem.Spec PyProof.Rows L2
def topS (i : Nat) : Stmt := PySem.Challenge.pw_unitshares_k14_read.main.body.getD i (.Pass ⟨0, 0, 0, 0⟩)
/-! ### how a def, a class, a built-in stand -/
/-- the module's name x holds the def st -/
def Stands (K : PySem.W.Frag) (mg : Str → Option Value) (x : Str) (st : Stmt) : Prop := ∃ f fd, Fun K x x st f fd ∧ mg x = some (.ref f)
/-- the def x keeps the promise sp -/
def Keeps (P : Program) (w : World) (K : PySem.W.Frag) (mg : Str → Option Value) (base : Heap) (k : Nat) (x : Str) (ps : List Str) (sp : Sp) : Prop :=
  ∃ f fd, FnOk P w K mg base (L2.CX P w) k f fd ps sp ∧ Binds K fd ps [] ∧ mg x = some (.ref f) ∧ PySem.W.keepIn K (.ref f) = true
/-- nothing leaves, so whatever leaves is as one likes -/
theorem toX {P : Program} {w : World} {K : PySem.W.Frag} {mg : Str → Option Value} {base : Heap} {k : Nat} {f : Addr} {fd : FuncData} {ps : List Str} {sp : Sp} (F : FnOk P w K mg base CX0 k f fd ps sp) : FnOk P w K mg base (L2.CX P w) k f fd ps sp :=
  ⟨F.len, fun A outer s H args us vs Q E hr e0 hb r h => codeAny_mono (F.run A outer s H args us vs Q E hr e0 hb r h) fun r s' q => by
    cases r with
    | error e => exact False.elim q
    | ok fl => cases fl <;> exact q⟩
structure Bi (mg : Str → Option Value) : Prop where
  len : mg "len" = none
  range : mg "range" = none
  min : mg "min" = none
  max : mg "max" = none
  sum : mg "sum" = none
  sorted : mg "sorted" = none
  set : mg "set" = none
  dict : mg "dict" = none
  list : mg "list" = none
  str : mg "str" = none
  int : mg "int" = none
  isinstance : mg "isinstance" = none
  bool : mg "bool" = none
  tuple : mg "tuple" = none
  ValueError : mg "ValueError" = none
abbrev veT : List Value := [.type "ValueError", .type "Exception", .type "BaseException", .type "object"]
/-! ### heaps -/
theorem same_new {H : Hp} {p : Addr} {o : HO} (h : H p = none) : Same H (upd H p o) := fun b x e => by
  rw [upd_ne (ne_of_none e h)]
  exact e
/-- an object that H does not know is written -/
theorem same_mut {H H' : Hp} {p : Addr} {o : HO} (s : Same H H') (h : H p = none) : Same H (upd H' p o) := fun b x e => by
  rw [upd_ne (ne_of_none e h)]
  exact s b x e
theorem same_tup {K : PySem.W.Frag} {H H' : Hp} {a : Addr} {xs : List V} (e : Same H H') (h : SqT K H a xs) : SqT K H' a xs := by
  rcases h with (h | ⟨o, h⟩) | h
  · exact .inl (.inl (e _ _ h))
  · exact .inl (.inr ⟨o, e _ _ h⟩)
  · exact .inr h
theorem ty_list {K : PySem.W.Frag} {H : Hp} {a : Addr} {xs : List V} (h : SqL K H a xs) : TyX K H (.ref a) (.type "list") := by
  rcases h with (h | ⟨o, h⟩) | ⟨o, _, _, h, c, _⟩
  · exact .base (.lst h)
  · exact .base (.frz h)
  · exact .kList h c
theorem ty_tup {K : PySem.W.Frag} {H : Hp} {a : Addr} {xs : List V} (h : SqT K H a xs) : TyX K H (.ref a) (.type "tuple") := by
  rcases h with (h | ⟨o, h⟩) | ⟨o, _, _, h, c, _⟩
  · exact .base (.tup h)
  · exact .fTuple h
  · exact .kTuple h c
theorem szl {n : Nat} (h : n ≤ 16000000) : n ≤ sizeLine := Nat.le_trans h (by decide)
theorem szl_lt {n : Nat} (h : n < 16000000) : n < sizeLine := Nat.lt_of_lt_of_le h (by decide)
theorem get_map {α β : Type} {f : α → β} {l : List α} {i : Nat} {x : α} (h : l[i]? = some x) : (l.map f)[i]? = some (f x) := by
  rw [List.getElem?_map, h] <;> rfl
theorem of_get_map {α β : Type} {f : α → β} {l : List α} {i : Nat} {y : β} (h : (l.map f)[i]? = some y) : ∃ x, l[i]? = some x ∧ y = f x := by
  rw [List.getElem?_map] at h
  cases e : l[i]? with
  | none => rw [e] at h; cases h
  | some x => rw [e] at h; exact ⟨x, rfl, (Option.some.inj h).symm⟩
theorem take_snoc {α : Type} {l : List α} {i : Nat} {x : α} (h : l[i]? = some x) : l.take (i + 1) = l.take i ++ [x] := by
  rw [List.take_add_one, h] <;> rfl
theorem lt_of_get {α : Type} {l : List α} {i : Nat} {x : α} (h : l[i]? = some x) : i < l.length := (List.getElem?_eq_some_iff.mp h).1
/-- 1, 2, .., n -/
def upto (n : Nat) : List Int := (List.range n).map fun (i : Nat) => 1 + (i : Int)
theorem upto_succ (n : Nat) : upto (n + 1) = upto n ++ [1 + (n : Int)] := by
  unfold upto
  rw [List.range_succ, List.map_append] <;> rfl
theorem upto_length (n : Nat) : (upto n).length = n := by
  unfold upto
  rw [List.length_map, List.length_range]
theorem mem_upto {n : Nat} {x : Int} : x ∈ upto n ↔ 1 ≤ x ∧ x ≤ n := by
  unfold upto
  rw [List.mem_map]
  constructor
  · rintro ⟨i, hi, rfl⟩
    have := List.mem_range.mp hi
    omega
  · rintro ⟨h1, h2⟩
    exact ⟨(x - 1).toNat, List.mem_range.mpr (by omega), by omega⟩
theorem cw_mul {i j : Int} {a b : Nat} (ha : i.natAbs < 2 ^ a) (hb : j.natAbs < 2 ^ b) (h0 : 0 < a := by decide) (h1 : 0 < b := by decide) (h : a + b ≤ 1000000 := by decide) : CMulW i j := wide_mul ha hb h0 h1 h
/-- // by a positive divisor, where it is told that C divides by itself -/
theorem op_fdivP {X : Cx} : OpR X (binaryOp .FloorDiv) (rI CDivP fun i j => .int (i / j)) := opI fun i j _ _ _ _ _ hc q => by
  have h1 : (0 : Int) < j := hc.1
  exact floordiv_int (by omega) (by rw [Int.fdiv_eq_ediv_of_nonneg i (by omega)]; exact q) (.inl hc.2)
theorem cdp_of {i j : Int} (h : CDivW i j) : CDivP i j := ⟨h.1, PyProof.noPylong_of_log2 h.2⟩
theorem cw_div {i j : Int} {b : Nat} (h : 0 < j) (hb : j.natAbs < 2 ^ b) (h0 : 0 < b := by decide) (h9 : b ≤ 9000 := by decide) : CDivP i j := cdp_of (wide_div h hb h0 h9)
theorem fil_yes {α : Type} {q : α → Prop} [DecidablePred q] {l : List α} {x : α} (h : q x) : (l ++ [x]).filter (fun k => decide (q k)) = l.filter (fun k => decide (q k)) ++ [x] := by
  rw [List.filter_append]
  congr 1
  simp [h]
theorem fil_no {α : Type} {q : α → Prop} [DecidablePred q] {l : List α} {x : α} (h : ¬ q x) : (l ++ [x]).filter (fun k => decide (q k)) = l.filter (fun k => decide (q k)) := by
  rw [List.filter_append]
  simp [h]
/-- what holds behind a statement, its ways joined -/
theorem cut {t R : TS} {D : Ends} {σ : L2.St} {H : Hp} (Pm : L2.St → Hp → Prop) (h1 : ∀ (R : TS) (D : Ends), (∀ σ' H', Pm σ' H' → R D σ' H') → tSeq t R D σ H) (h2 : ∀ σ' H', Pm σ' H' → R D σ' H') : tSeq t R D σ H := h1 R D h2
/-- name = constant -/
theorem asg_c {v : V} {i : Nat} {R : TS} {D : Ends} {σ : L2.St} {H : Hp} (h : R D (σ.set i (some v)) H) : tSeq (tAsg (tC v) (gName i)) R D σ H := h
theorem snoc_ind {α : Type} (P : List α → Prop) (l : List α) (h0 : P []) (hs : ∀ l x, P l → P (l ++ [x])) : P l := by
  have : ∀ r : List α, P r.reverse := fun r => by
    induction r with
    | nil => exact h0
    | cons x r ih =>
      rw [List.reverse_cons]
      exact hs _ _ ih
  have := this l.reverse
  rwa [List.reverse_reverse] at this

/-! ### sizes, by bits -/
/-- x has at most n bits -/
def Sz (n : Nat) (x : Int) : Prop := x.natAbs < 2 ^ n
theorem Sz.mono {a b : Nat} {x : Int} (h : Sz a x) (l : a ≤ b := by decide) : Sz b x := Nat.lt_of_lt_of_le h (Nat.pow_le_pow_right (by decide) l)
theorem Sz.le {a : Nat} {x y : Int} (h : Sz a y) (h0 : 0 ≤ x) (l : x ≤ y) : Sz a x := Nat.lt_of_le_of_lt (by omega : x.natAbs ≤ y.natAbs) h
theorem Sz.mul {a b : Nat} {x y : Int} (h : Sz a x) (g : Sz b y) : Sz (a + b) (x * y) := by
  unfold Sz
  rw [Int.natAbs_mul, Nat.pow_add]
  exact Nat.mul_lt_mul'' h g
theorem Sz.add {a : Nat} {x y : Int} (h : Sz a x) (g : Sz a y) : Sz (a + 1) (x + y) := by
  have h : x.natAbs < 2 ^ a := h
  have g : y.natAbs < 2 ^ a := g
  show (x + y).natAbs < 2 ^ (a + 1)
  rw [Nat.pow_succ]
  omega
theorem Sz.sub {a : Nat} {x y : Int} (h : Sz a x) (g : Sz a y) : Sz (a + 1) (x - y) := by
  have h : x.natAbs < 2 ^ a := h
  have g : y.natAbs < 2 ^ a := g
  show (x - y).natAbs < 2 ^ (a + 1)
  rw [Nat.pow_succ]
  omega
theorem Sz.cm {a b : Nat} {i j : Int} (ha : Sz a i) (hb : Sz b j) (h0 : 0 < a := by decide) (h1 : 0 < b := by decide) (h : a + b ≤ 1000000 := by decide) : CMulW i j := wide_mul ha hb h0 h1 h
theorem Sz.cd {b : Nat} {i j : Int} (hb : Sz b j) (h : 0 < j) (h0 : 0 < b := by decide) (h9 : b ≤ 9000 := by decide) : CDivP i j := cw_div h hb h0 h9
theorem Sz.lit {a : Nat} {x : Int} (h : x.natAbs < 2 ^ a := by decide) : Sz a x := h
theorem Sz.one {a : Nat} (h : 0 < a := by decide) : Sz a 1 := Nat.one_lt_two_pow (by omega)
theorem Sz.zero {a : Nat} : Sz a 0 := Nat.pow_pos (by decide)
/-- a dividend not much greater than its divisor -/
theorem cdp_near {i j : Int} {k : Nat} (hj : 0 < j) (h : i.natAbs ≤ 2 ^ k * j.natAbs) (hk : k ≤ 3000 := by decide) : CDivP i j := by
  refine divp_ok hj ?_
  have b1 : j.natAbs < 2 ^ (j.natAbs.log2 + 1) := Nat.lt_log2_self
  have b2 : i.natAbs < 2 ^ (k + (j.natAbs.log2 + 1)) := by
    rw [Nat.pow_add]
    exact Nat.lt_of_le_of_lt h (Nat.mul_lt_mul_of_pos_left b1 (Nat.pow_pos (by decide)))
  have b3 := PyProof.Rows.intBits_le b2
  have b4 : Builtin.Int.intBits j = j.natAbs.log2 + 1 := by
    unfold Builtin.Int.intBits
    rw [if_neg (by simpa using (show j ≠ 0 by omega))]
  omega

/-! ### set(xs) of a list of ints -/
section
variable {P : Program} {w : World} {A : Around} {E : Value → Shared → Prop}
/-- a set that was just made -/
abbrev bare (w : World) : Obj := { cls := .type "set", dict := none, data := .set #[] 0 (.fresh 0 0 (!w.params.followText "set-order")) }
/-- what set.__init__ leaves of s, the set at a: it holds the ints, all of g is kept -/
def Filled (w : World) (s : Shared) (g : Heap) (a : Addr) (ns : List Int) (v : Value) (s' : Shared) : Prop :=
  v = .none ∧ ∃ h tk c, s' = { s with heap := h, toks := tk } ∧ SetR w h a (fun j => decide (j ∈ ns)) c ∧ c ≤ ns.length ∧ ∀ b o, g.get? b = some o → h.get? b = some o
/-- the filling, over the list's own iterator -/
theorem fill_list {g : Heap} {s : Shared} {l : Addr} {its : Array Value} {ns : List Int} (hs : s.heap = (g.push (bare w)).push { cls := .type "list_iterator", data := .fields #[.ref l, .int 0 0] }) (hh : A.handled = none)
    (hl : g.IsList l its) (hi : IntsAre its.toList ns) (hn : its.size = ns.length) (hb : ns.length + 1 < scanBound) {R : Result → Shared → Prop} (hr : ∀ s', Filled w s g g.objs.size ns .none s' → R (.ok (.ret .none)) s') :
    codeAny (model P w) A (.builtin "set.update.loop" ⟨[.ref g.objs.size, .ref (g.objs.size + 1)], []⟩) R s := by
  have lt : l < g.objs.size := by
    obtain ⟨o, e, _⟩ := hl
    exact Heap.lt_size e
  have z1 : (g.push (bare w)).objs.size = g.objs.size + 1 := Heap.size_push ..
  have a0 : (g.push (bare w)).get? g.objs.size = some (bare w) := Heap.get?_push_size _ rfl
  have apart : g.objs.size ∉ [g.objs.size + 1, l] := by
    intro m
    rcases List.mem_cons.mp m with e | m
    · exact Nat.ne_of_lt (Nat.lt_succ_self _) e
    · exact Nat.ne_of_gt lt (List.mem_singleton.mp m)
  have val : ∀ (i : Nat) (v : Value), its[i]? = some v → ∃ k t, ns[i]? = some k ∧ v = .int k t := fun i v e => by
    have hi' : i < ns.length := hn ▸ (Array.getElem?_eq_some_iff.mp e).1
    obtain ⟨t, q⟩ := IntsAre.int_at hi i v (by rw [Array.getElem?_toList]; exact e)
    have d : ns.getD i 0 = ns[i] := by rw [List.getD_eq_getElem?_getD, List.getElem?_eq_getElem hi'] <;> rfl
    exact ⟨ns[i], t, List.getElem?_eq_getElem hi', by rw [q, d]⟩
  have hh1 : A.in1.handled = none := hh
  have hl1 : (g.push (bare w)).IsList l its := hl.push _
  obtain ⟨hp, gg, d, tk, os⟩ := s
  have hs : hp = (g.push (bare w)).push { cls := .type "list_iterator", data := .fields #[.ref l, .int 0 0] } := hs
  subst hs
  have W := (Walks.list (prog := P) (w := w) hh1 (g.objs.size + 1) l (Nat.ne_of_lt (Nat.lt_succ_of_lt lt)) its).toS
  refine set_update_ints W g.objs.size apart ns hn hb val (its.size - 0) 0 _ (by omega) (Nat.zero_le _) ?_ ⟨0, Nat.le_refl 0, setR_new_at (Heap.get?_push_of_some _ a0)⟩ fun s' c m hc hR => ?_
  · exact ⟨⟨_, by rw [← z1]; exact Heap.get?_push_size _ rfl, rfl, rfl⟩, hl1.push _⟩
  · obtain ⟨h', g2, d2, tk2, os2⟩ := s'
    cases (m.gens : g2 = gg)
    cases (m.drawn : d2 = d)
    cases (m.os : os2 = os)
    refine hr _ ⟨rfl, h', tk2, c, rfl, hR, hn ▸ hc, fun b o e => ?_⟩
    have hb' := Heap.lt_size e
    refine m.heap b o (fun z => ?_) (Heap.get?_push_of_some _ (Heap.get?_push_of_some _ e))
    rcases List.mem_cons.mp z with z | z
    · exact Nat.ne_of_lt hb' z
    · exact Nat.ne_of_lt (Nat.lt_succ_of_lt hb') (List.mem_singleton.mp z)
set_option maxHeartbeats 3200000 in
theorem init_list {g : Heap} {s : Shared} {l : Addr} {its : Array Value} {ns : List Int} (hs : s.heap = g.push (bare w)) (hh : A.handled = none) (hl : g.IsList l its) (hi : IntsAre its.toList ns) (hn : its.size = ns.length) (hb : ns.length + 1 < scanBound) :
    codeAny (model P w) A (.call (.builtin "set.__init__") ⟨[.ref g.objs.size, .ref l], []⟩) (wants (Filled w s g g.objs.size ns) E) s := by
  have here : s.heap.get? g.objs.size = some (bare w) := by
    rw [hs]
    exact Heap.get?_push_size _ rfl
  have ty : s.TypeIs (.ref g.objs.size) "set" := ⟨_, here, rfl⟩
  have hl1 : s.heap.IsList l its := by
    rw [hs]
    exact hl.push _
  refine codeAny_call_builtin F.called_set.init.plain F.entry_set_init (check_set_init_1 ty ?_)
  obtain ⟨ol, gl, cl, nl, dl⟩ := id hl1
  obtain ⟨ocls, odict, odata, oslots⟩ := ol
  simp only at cl dl
  subst cl dl
  have n1 := F.sub_list_set
  have n2 := F.sub_list_frozenset
  have n3 : (Value.type "list" == Value.type "dict") = false := by decide
  obtain ⟨hp, gg, d, tk, os⟩ := s
  dsimp only at hs here gl hl1 ty
  subst hs
  unfold Builtin.«set.__init__» noKeywords Builtin.Frozenset.updateFrom
  generalize eI : pyIter = it
  wp_walk
  subst eI
  refine wpAny_pyIter_list hl1 ?_
  refine wpAny_bind (wpAny_runValue ?_)
  have z1 : (g.push (bare w)).objs.size = g.objs.size + 1 := Heap.size_push ..
  rw [z1]
  refine fill_list (g := g) rfl (by simpa using hh) hl hi hn hb fun s' f => ?_
  obtain ⟨_, h', tk', c, rfl, r⟩ := f
  show wpAny _ _ _ _ _ _
  refine wpAny_pure ?_
  show wpAny _ _ (ret Value.none) _ _ _
  exact wpAny_pure ⟨rfl, h', tk', c, rfl, r⟩
set_option maxHeartbeats 3200000 in
theorem set_of_list {s : Shared} {l : Addr} {its : Array Value} {ns : List Int} (hh : A.handled = none) (hl : s.heap.IsList l its) (hi : IntsAre its.toList ns) (hb : ns.length + 1 < scanBound) {Q : Value → Shared → Prop}
    (hq : ∀ (h : Heap) (tk c : Nat), SetR w h s.heap.objs.size (fun j => decide (j ∈ ns)) c → c ≤ ns.length → (∀ b o, s.heap.get? b = some o → h.get? b = some o) → Q (.ref s.heap.objs.size) { s with heap := h, toks := tk }) :
    wpAny (model P w) A (call (.type "set") [.ref l]) Q E s := by
  have hn : its.size = ns.length := by
    have q := IntsAre.length hi
    rwa [Array.length_toList] at q
  obtain ⟨c, tl, hmro⟩ := F.called_set.mro
  have f1 := F.called_set.made
  have f2 := F.called_set.sub
  have f3 := F.called_set.notType
  have f4 := F.called_set.canCreate
  have f5 := F.typeCall_set_1 (.ref l)
  refine wpAny_call (codeAny_of_tree ?_)
  show wpAny _ _ (callAny (.type "set") _) _ _ _
  refine wpAny_pure ⟨Code.quiet_builtin _ (by decide +kernel), codeAny_builtin F.entry_type_call ?_⟩
  rw [Around.under_plain (weight_type_call_type "set" [.ref l] []) rfl]
  repeat (any_goals (first | assumption | wp_step))
  refine codeAny_mono (code_set_led1 (w := w) (.ref l) (E := E) (Q₁ := fun u s₁ => u = .ref s.heap.objs.size ∧ s₁ = { s with heap := s.heap.push (bare w) }) ⟨rfl, rfl⟩) fun r s₁ hr => ?_
  cases r with
  | error e => exact hr
  | ok fl =>
    cases fl with
    | ret u =>
      obtain ⟨rfl, rfl⟩ := hr
      have here : (s.heap.push (bare w)).get? s.heap.objs.size = some (bare w) := Heap.get?_push_size _ rfl
      have ty : Shared.TypeIs { s with heap := s.heap.push (bare w) } (.ref s.heap.objs.size) "set" := ⟨_, here, rfl⟩
      have g1 := F.called_set.init.lookup
      have g2 := F.called_set.init.bind (.ref s.heap.objs.size)
      repeat (any_goals (first | assumption | wp_step))
      refine codeAny_mono (init_list (s := { s with heap := s.heap.push (bare w) }) rfl hh hl hi hn hb (E := E)) fun r₂ s₂ h₂ => ?_
      cases r₂ with
      | error e => exact h₂
      | ok f2 =>
        cases f2 with
        | ret v =>
          obtain ⟨rfl, h', tk', c', rfl, hR, hc, hk⟩ := h₂
          repeat (any_goals (first | assumption | wp_step))
          exact hq _ _ _ hR hc hk
        | next => exact h₂.elim
        | brk => exact h₂.elim
        | cont => exact h₂.elim
    | next => exact hr.elim
    | brk => exact hr.elim
    | cont => exact hr.elim
end
/-- set(xs) -/
def rSetL (K : PySem.W.Frag) (w : World) : List V → Hp → VK → Prop := fun vs H Q => ∃ (l : Addr) (ns : List Int), vs = [V.ref l] ∧ SqL K H l (ns.map V.int) ∧ ns.length < 4000 ∧
  ∀ (p : Addr) (c : Nat), H p = none → c ≤ ns.length → Q (.ref p) (upd H p (SetO w p (fun j => decide (j ∈ ns)) c))
theorem cr_setL {X : Cx} (hc : X.calm = true) : CallR X (.type "set") (rSetL X.K X.w) := by
  intro pins s σ H vs us Q I r h
  obtain ⟨l, ns, rfl, hS, hn, q⟩ := h
  obtain ⟨u, rfl, ru⟩ := vals1 r
  cases ru
  obtain ⟨its, rv, pl, hz⟩ := I.list hS
  refine set_of_list (I.ok.hd hc) pl.isList (ns := ns) (by simpa using RZ.intsAre_vals rv) (by unfold scanBound; omega) fun h tk c hR hc' hk => ?_
  exact ⟨.ref _, _, I.laid (t' := tk) (a := s.heap.objs.size) hk (Nat.le_refl _) (setO_new hR), rfl, q _ c (I.hok.fresh (Nat.le_refl _)) hc'⟩

/-! ### pairs of ints, compared -/
theorem dp_pair {K : PySem.W.Frag} {H : Hp} {a : Addr} {t u : Int} (h : SqT K H a [.int t, .int u]) : Dp K H (.ref a) (.tuple [.int t, .int u]) := .tup h (.cons (.int t) (.cons (.int u) .nil))
theorem eqv_pair (t u t' u' : Int) : PyData.eqv (.tuple [.int t, .int u]) (.tuple [.int t', .int u']) = decide (t = t' ∧ u = u') := by
  simp [PyData.eqv, PyData.eqvAll, Bool.decide_and]
  rfl

--: math = setlist
--: math = pairs
/-! ### lists that rise -/
def Ris (xs : List Int) : Prop := xs.Pairwise (· < ·)
instance (xs : List Int) : Decidable (Ris xs) := inferInstanceAs (Decidable (xs.Pairwise _))
theorem ris_uniq : ∀ {a b : List Int}, Ris a → Ris b → (∀ k, k ∈ a ↔ k ∈ b) → a = b
  | [], [], _, _, _ => rfl
  | [], y :: b, _, _, h => absurd ((h y).mpr List.mem_cons_self) (by simp)
  | x :: a, [], _, _, h => absurd ((h x).mp List.mem_cons_self) (by simp)
  | x :: a, y :: b, ha, hb, h => by
    obtain ⟨a1, a2⟩ := List.pairwise_cons.mp ha
    obtain ⟨b1, b2⟩ := List.pairwise_cons.mp hb
    have e : x = y := by
      rcases List.mem_cons.mp ((h x).mp List.mem_cons_self) with e | m
      · exact e
      · rcases List.mem_cons.mp ((h y).mpr List.mem_cons_self) with e | m'
        · exact e.symm
        · have := b1 x m
          have := a1 y m'
          omega
    subst e
    refine congrArg (x :: ·) (ris_uniq a2 b2 fun k => ⟨fun m => ?_, fun m => ?_⟩)
    · rcases List.mem_cons.mp ((h k).mp (List.mem_cons_of_mem _ m)) with e | m'
      · have := a1 k m
        omega
      · exact m'
    · rcases List.mem_cons.mp ((h k).mpr (List.mem_cons_of_mem _ m)) with e | m'
      · have := b1 k m
        omega
      · exact m'
theorem ris_adj {xs : List Int} (h : ∀ (j : Nat) (x y : Int), xs[j]? = some x → xs[j + 1]? = some y → x < y) : Ris xs := by
  refine List.pairwise_iff_getElem.mpr fun i j hi hj hij => ?_
  obtain ⟨d, rfl⟩ : ∃ d, j = i + 1 + d := ⟨j - (i + 1), by omega⟩
  induction d with
  | zero => exact h i _ _ (List.getElem?_eq_getElem hi) (List.getElem?_eq_getElem hj)
  | succ d ih =>
    have h1 := ih (by omega) (by omega)
    have h2 := h (i + 1 + d) _ _ (List.getElem?_eq_getElem (by omega)) (List.getElem?_eq_getElem hj)
    omega
theorem ris_at {xs : List Int} (h : Ris xs) {j : Nat} {x y : Int} (e1 : xs[j]? = some x) (e2 : xs[j + 1]? = some y) : x < y := by
  obtain ⟨h1, rfl⟩ := List.getElem?_eq_some_iff.mp e1
  obtain ⟨h2, rfl⟩ := List.getElem?_eq_some_iff.mp e2
  exact List.pairwise_iff_getElem.mp h j (j + 1) h1 h2 (by omega)
/-! ### data of ints, compared -/
theorem dp_ints {K : PySem.W.Frag} {H : Hp} {a : Addr} {xs : List Int} (h : SqL K H a (xs.map V.int)) : Dp K H (.ref a) (.list (xs.map PyData.int)) := by
  refine .lst h ?_
  clear h
  induction xs with
  | nil => exact .nil
  | cons x xs ih => exact .cons (.int x) ih
theorem eqvAll_ints : ∀ xs ys : List Int, PyData.eqvAll (xs.map PyData.int) (ys.map PyData.int) = decide (xs = ys)
  | [], [] => by simp [PyData.eqvAll]
  | [], y :: ys => by simp [PyData.eqvAll]
  | x :: xs, [] => by simp [PyData.eqvAll]
  | x :: xs, y :: ys => by
    have ih := eqvAll_ints xs ys
    simp only [List.map_cons, PyData.eqvAll, PyData.eqv, ih]
    rw [Bool.eq_iff_iff]
    simp
theorem eqv_ints (xs ys : List Int) : PyData.eqv (.list (xs.map PyData.int)) (.list (ys.map PyData.int)) = decide (xs = ys) := by
  rw [← eqvAll_ints]
  simp only [PyData.eqv]
theorem canLay_ints : ∀ xs : List Int, PyData.canLayAll0 (xs.map PyData.int) = true
  | [] => rfl
  | x :: xs => by
    simp only [List.map_cons, PyData.canLayAll0, PyData.canLay0, canLay_ints xs]
    rfl
theorem depth_ints : ∀ xs : List Int, PyData.depthAll (xs.map PyData.int) = 0
  | [] => rfl
  | x :: xs => by
    simp only [List.map_cons, PyData.depthAll, PyData.depth, depth_ints xs]
    rfl
theorem shaped_ints (xs : List Int) : SeqAt.shaped (.list (xs.map PyData.int)) = true := by
  unfold SeqAt.shaped
  simp only [PyData.canLay0, PyData.depth, canLay_ints, depth_ints]
  rfl

--: math = sz
--: math = ris
/-! ### texts by their codes -/
open TL
theorem str_eq {x y : Str} : V.str x = V.str y ↔ tl x = tl y := ⟨fun h => by cases h; rfl, fun h => by rw [ext_tl h]⟩
theorem cut_from (w : Str) : tl (cutS w (some 2) none) = (tl w).drop 2 := by
  have e : HT.sIx w.length 0 (some 2) = min 2 w.length := HT.sIx_nat _ _ 2
  show (List.take _ ((tl w).drop (HT.sIx w.length 0 (some 2)))) = _
  rw [e, len_tl]
  show List.take ((tl w).length - min 2 (tl w).length) ((tl w).drop (min 2 (tl w).length)) = _
  by_cases c : 2 ≤ (tl w).length
  · rw [Nat.min_eq_left c, List.take_of_length_le]
    rw [List.length_drop]
    exact Nat.le_refl _
  · rw [Nat.min_eq_right (by omega), Nat.sub_self, List.take_zero, List.drop_eq_nil_of_le (by omega)]
theorem cut_to (w : Str) : tl (cutS w none (some 2)) = (tl w).take 2 := by
  have e : HT.sIx w.length w.length (some 2) = min 2 w.length := HT.sIx_nat _ _ 2
  show (List.take (HT.sIx w.length w.length (some 2) - 0) ((tl w).drop 0)) = _
  rw [e, len_tl, List.drop_zero, Nat.sub_zero]
  by_cases c : 2 ≤ (tl w).length
  · rw [Nat.min_eq_left c]
  · rw [Nat.min_eq_right (by omega), List.take_of_length_le (Nat.le_refl _), List.take_of_length_le (by omega)]
/-- over the signs of a text -/
theorem for_str {x : Str} {g : TG} {tb : TS} {D : Ends} {σ : L2.St} {H : Hp} (Pv : Nat → L2.St → Hp → Prop) (h0 : Pv 0 σ H)
    (hs : ∀ i c σ H, (tl x)[i]? = some c → Pv i σ H → g (.str ⟨#[c]⟩) σ H fun σ2 H2 => tb { D with nx := Pv (i + 1), ct := Pv (i + 1), bk := D.nx } σ2 H2) (hd : ∀ σ H, Pv (tl x).length σ H → D.nx σ H) :
    ∃ W : Nat → Nat → L2.St → Hp → Prop, (∃ m, W 0 m σ H) ∧ ∀ i m σ H, W i m σ H →
      ((Its x).stop i H ∧ D.nx σ H) ∨ ((Its x).go i H ∧ ∃ N : L2.St → Hp → Prop, (∀ σ' H', N σ' H' → ∃ m', m' < m ∧ W (i + 1) m' σ' H') ∧ ∀ v H', (Its x).yld i H v H' → g v σ H' fun σ2 H2 => tb { D with nx := N, ct := N, bk := D.nx } σ2 H2) := by
  have len : (tl x).length = x.cps.size := by simp [tl]
  refine ⟨fun i m σ H => m = (tl x).length - i ∧ i ≤ (tl x).length ∧ Pv i σ H, ⟨_, rfl, Nat.zero_le _, h0⟩, ?_⟩
  rintro i m σ H ⟨rfl, hi, p⟩
  by_cases hlt : i < (tl x).length
  · refine .inr ⟨by show i < x.cps.size; omega, Pv (i + 1), fun σ' H' p' => ⟨_, by omega, rfl, hlt, p'⟩, ?_⟩
    rintro v H' ⟨rfl, c, ec, rfl⟩
    exact hs i c σ _ (by rw [← ec]; simp [tl]) p
  · obtain rfl : i = (tl x).length := by omega
    exact .inl ⟨by show x.cps.size ≤ (tl x).length; omega, hd σ H p⟩
/-! ### a share, written -/
/-- the share that a word writes, by its codes -/
def shareF (l : List Nat) : Option Nat :=
  if l.take 2 = [49, 47] ∧ l.drop 2 ≠ [] ∧ (l.drop 2).length ≤ 400 ∧ (l.drop 2).head? ≠ some 48 ∧ ∀ c ∈ l.drop 2, 48 ≤ c ∧ c ≤ 57 then some (NumText.digitsVal (l.drop 2)) else none
theorem shareF_no {l : List Nat} (h : ¬ (l.take 2 = [49, 47] ∧ l.drop 2 ≠ [] ∧ (l.drop 2).length ≤ 400 ∧ (l.drop 2).head? ≠ some 48 ∧ ∀ c ∈ l.drop 2, 48 ≤ c ∧ c ≤ 57)) : shareF l = none := if_neg h
theorem shareF_yes {l : List Nat} (h : l.take 2 = [49, 47] ∧ l.drop 2 ≠ [] ∧ (l.drop 2).length ≤ 400 ∧ (l.drop 2).head? ≠ some 48 ∧ ∀ c ∈ l.drop 2, 48 ≤ c ∧ c ≤ 57) : shareF l = some (NumText.digitsVal (l.drop 2)) := if_pos h
/-- 1/ and a number -/
def wordF (x : Int) : Str := ("1/" : Str) ++ Str.ofString (toString x)
theorem tl_word {n : Nat} : tl (wordF (n : Int)) = 49 :: 47 :: numL n := by
  unfold wordF
  rw [tl_append, tl_num] <;> rfl
theorem numL_head : ∀ n : Nat, 1 ≤ n → (numL n).head? ≠ some 48 := fun n => by
  induction n using Nat.strongRecOn with
  | ind n ih =>
    intro h
    by_cases c : n < 10
    · rw [numL_lt c]
      intro z
      have : 48 + n = 48 := Option.some.inj z
      omega
    · have i := ih (n / 10) (by omega) (by omega)
      rw [numL_step (by omega)]
      have ne := numL_ne (n / 10)
      revert i ne
      generalize numL (n / 10) = l
      intro i ne
      cases l with
      | nil => exact absurd rfl ne
      | cons a r => exact i
theorem share_word {n : Nat} (h : 1 ≤ n) (hl : (numL n).length ≤ 400) : shareF (tl (wordF (n : Int))) = some n := by
  rw [tl_word]
  have e := numL_val n
  have d : List.drop 2 (49 :: 47 :: numL n) = numL n := rfl
  have y := shareF_yes (l := 49 :: 47 :: numL n) ⟨rfl, by rw [d]; exact numL_ne n, by rw [d]; exact hl, by rw [d]; exact numL_head n h, fun c hc => numL_digits n c (by rw [d] at hc; exact hc)⟩
  rw [y, d, e]
theorem word_len {n : Nat} (hl : (numL n).length ≤ 400) : (wordF (n : Int)).length ≤ 402 := by
  rw [len_tl, tl_word, List.length_cons, List.length_cons]
  omega
theorem word_free {n s : Nat} (h : s ≠ 49) (h2 : s < 47) : s ∉ tl (wordF (n : Int)) := by
  rw [tl_word]
  intro m
  rcases List.mem_cons.mp m with z | m
  · exact h z
  · rcases List.mem_cons.mp m with z | m
    · omega
    · exact numL_free (.inl (by omega)) m
/-! ### some shares, written -/
def gap : Str := " + "
theorem gap_tl : tl gap = [32, 43, 32] := by decide +kernel
def shownF (xs : List Int) : Str := if xs = [] then "0" else Txt.join gap (xs.map wordF)
theorem joinL_snoc (S : List Nat) : ∀ (ps : List (List Nat)) (p : List Nat), ps ≠ [] → joinL S (ps ++ [p]) = joinL S ps ++ (S ++ p)
  | [], _, h => absurd rfl h
  | [a], p, _ => by
    show a ++ (S ++ p) = a ++ (S ++ p)
    rfl
  | a :: b :: r, p, _ => by
    have ih := joinL_snoc S (b :: r) p (by simp)
    show a ++ (S ++ joinL S (b :: r ++ [p])) = a ++ (S ++ joinL S (b :: r)) ++ (S ++ p)
    rw [ih, List.append_assoc, List.append_assoc]
theorem join_tl (y : Str) (ps : List Str) : tl (Txt.join y ps) = joinL (tl y) (ps.map tl) := by rw [join_eq, tl_join]
theorem join_snoc {ps : List Str} (h : ps ≠ []) (p : Str) : Txt.join gap (ps ++ [p]) = Txt.join gap ps ++ gap ++ p := by
  refine ext_tl ?_
  rw [join_tl, List.map_append, List.map_singleton, joinL_snoc _ _ _ (by simpa using h), tl_append, tl_append, join_tl, List.append_assoc]
theorem join_one (p : Str) : Txt.join gap [p] = p := ext_tl (by rw [join_tl] <;> rfl)
/-- shares that one may write: at least one, of at most 400 figures -/
def Wr (xs : List Int) : Prop := ∀ x ∈ xs, ∃ n : Nat, x = n ∧ 1 ≤ n ∧ (numL n).length ≤ 400
theorem split_shown {xs : List Int} (h : Wr xs) (ne : xs ≠ []) : Txt.split (Txt.join gap (xs.map wordF)) gap = xs.map wordF :=
  split_join gap_tl (by decide +kernel) (by simpa using ne) fun p hp => by
    obtain ⟨x, hx, rfl⟩ := List.mem_map.mp hp
    obtain ⟨n, rfl, _, _⟩ := h x hx
    exact word_free (by decide) (by decide)
/-- the words of a text, read -/
def wordsF (t : Str) : List (Option Nat) := (Txt.split t gap).map fun w => shareF (tl w)
theorem words_shown {xs : List Int} (h : Wr xs) (ne : xs ≠ []) : wordsF (Txt.join gap (xs.map wordF)) = xs.map fun x => some x.toNat := by
  unfold wordsF
  rw [split_shown h ne, List.map_map]
  refine List.map_congr_left fun x hx => ?_
  obtain ⟨n, rfl, n1, nl⟩ := h x hx
  exact share_word n1 nl
theorem shown_not0 {xs : List Int} (h : Wr xs) (ne : xs ≠ []) : tl (Txt.join gap (xs.map wordF)) ≠ [48] := by
  obtain ⟨x, r, rfl⟩ := List.exists_cons_of_ne_nil ne
  obtain ⟨n, rfl, _, _⟩ := h x List.mem_cons_self
  rw [join_tl, List.map_cons, List.map_cons, tl_word]
  intro z
  cases r with
  | nil => exact absurd (congrArg List.head? z) (by show ¬ (some 49 = some 48); decide)
  | cons y r => exact absurd (congrArg List.head? z) (by show ¬ (some 49 = some 48); decide)
theorem shown_len {xs : List Int} (h : Wr xs) : (Txt.join gap (xs.map wordF)).length ≤ 405 * xs.length := by
  refine snoc_ind (fun xs => Wr xs → (Txt.join gap (xs.map wordF)).length ≤ 405 * xs.length) xs (fun _ => Nat.zero_le _) (fun l x ih h => ?_) h
  have w : (wordF x).length ≤ 402 := by
    obtain ⟨n, rfl, _, nl⟩ := h x (List.mem_append_right _ List.mem_cons_self)
    exact word_len nl
  have i := ih fun y hy => h y (List.mem_append_left _ hy)
  rw [List.map_append, List.map_singleton, List.length_append, List.length_singleton]
  by_cases ne : l = []
  · subst ne
    rw [List.map_nil, List.nil_append, join_one]
    omega
  · rw [join_snoc (by simpa using ne), Str.length_append, Str.length_append]
    have : gap.length = 3 := by decide +kernel
    omega
theorem join_sum {xs : List Int} (h : Wr xs) : ((xs.map wordF).map (·.length)).sum ≤ 402 * xs.length := by
  refine snoc_ind (fun xs => Wr xs → ((xs.map wordF).map (·.length)).sum ≤ 402 * xs.length) xs (fun _ => Nat.zero_le _) (fun l x ih h => ?_) h
  have w : (wordF x).length ≤ 402 := by
    obtain ⟨n, rfl, _, nl⟩ := h x (List.mem_append_right _ List.mem_cons_self)
    exact word_len nl
  have i := ih fun y hy => h y (List.mem_append_left _ hy)
  rw [List.map_append, List.map_append, List.sum_append, List.length_append, List.length_singleton]
  show _ + ((wordF x).length + 0) ≤ _
  omega
theorem wr_log {xs : List Int} (h : Wr xs) {x : Int} (hx : x ∈ xs) : x.natAbs.log2 < 1920 := by
  obtain ⟨n, rfl, n1, nl⟩ := h x hx
  have l : (Nat.repr n).length ≤ 400 := by
    have : (numL n).length = (Nat.repr n).length := by
      unfold numL Nat.repr
      rw [List.length_map, String.length_ofList]
    omega
  have b := (Nat.length_repr_le_iff (n := n) (k := 400) (by decide)).mp l
  have p : (10 ^ 400 : Nat) < 2 ^ 1920 := by decide +kernel
  show n.log2 < 1920
  exact (Nat.log2_lt (by omega)).mpr (Nat.lt_trans b p)
theorem lit_1 : tl ("1/" : Str) = [49, 47] := by decide +kernel
theorem lit_0 : tl ("0" : Str) = [48] := by decide +kernel
theorem lit_e : tl ("" : Str) = [] := by decide +kernel
theorem figs {c : Nat} : c ∈ tl ("0123456789" : Str) ↔ 48 ≤ c ∧ c ≤ 57 := by
  have e : tl ("0123456789" : Str) = [48, 49, 50, 51, 52, 53, 54, 55, 56, 57] := by decide +kernel
  rw [e]
  simp only [List.mem_cons, List.not_mem_nil, or_false]
  omega
theorem sign_eq {c d : Nat} : V.str ⟨#[c]⟩ = V.str ⟨#[d]⟩ ↔ c = d := ⟨fun h => by cases h; rfl, fun h => by rw [h]⟩
theorem shown_cons {xs : List Int} (h : xs ≠ []) : shownF xs = Txt.join gap (xs.map wordF) := if_neg h
theorem shown_nil : shownF [] = "0" := rfl
theorem split_len {xs : List Int} (h : Wr xs) (ne : xs ≠ []) : ∀ w ∈ Txt.split (Txt.join gap (xs.map wordF)) gap, w.length ≤ 402 := fun w hw => by
  rw [split_shown h ne] at hw
  obtain ⟨x, hx, rfl⟩ := List.mem_map.mp hw
  obtain ⟨n, rfl, _, nl⟩ := h x hx
  exact word_len nl

--: math = text
/-! ### texts that are read -/
open TL
def plusC (l : List Nat) : Nat := l.count 43
theorem spl_few : ∀ (n : Nat) (l acc : List Nat), l.length ≤ n → (TL.spl [32, 43, 32] 0 acc l).length ≤ 1 + plusC l
  | _, [], acc, _ => by
    rw [TL.spl_nil]
    exact Nat.le_add_right 1 _
  | 0, c :: r, acc, h => absurd h (by simp)
  | n + 1, c :: r, acc, h => by
    rw [List.length_cons] at h
    have up : plusC r ≤ plusC (c :: r) := List.Sublist.count_le 43 (List.sublist_cons_self c r)
    cases hp : TL.pre [32, 43, 32] (c :: r) with
    | false =>
      rw [TL.spl_miss hp]
      exact Nat.le_trans (spl_few n r _ (by omega)) (by omega)
    | true =>
      rw [TL.spl_hit hp, List.length_cons, TL.spl_pass]
      have e : (c :: r).take 3 = [32, 43, 32] := by
        unfold TL.pre at hp
        exact eq_of_beq hp
      obtain ⟨q, er⟩ : ∃ q, r = 43 :: 32 :: q := by
        match r, e with
        | a :: b :: q, e =>
          have e : [c, a, b] = [32, 43, 32] := e
          cases e
          exact ⟨q, rfl⟩
      subst er
      have k : (TL.spl [32, 43, 32] 0 [] (List.drop ([32, 43, 32].length - 1) (43 :: 32 :: q))).length ≤ 1 + plusC q := spl_few n q [] (by simp only [List.length_cons] at h; omega)
      have k2 : plusC (c :: 43 :: 32 :: q) ≥ 1 + plusC q := by
        unfold plusC
        have : (43 :: 32 :: q).count 43 = q.count 43 + 1 := by
          rw [List.count_cons_self, List.count_cons_of_ne (by decide)]
        have u : (43 :: 32 :: q).count 43 ≤ (c :: 43 :: 32 :: q).count 43 := List.Sublist.count_le 43 (List.sublist_cons_self c _)
        omega
      omega
theorem spl_short (S : List Nat) : ∀ (l : List Nat) (k : Nat) (acc p : List Nat), p ∈ TL.spl S k acc l → p.length ≤ acc.length + l.length
  | [], k, acc, p, h => by
    rw [TL.spl_nil] at h
    rw [List.mem_singleton.mp h]
    exact Nat.le_add_right _ _
  | c :: r, 0, acc, p, h => by
    have h : p ∈ (if TL.pre S (c :: r) = true then acc :: TL.spl S (S.length - 1) [] r else TL.spl S 0 (acc ++ [c]) r) := h
    rw [List.length_cons]
    split at h
    · rcases List.mem_cons.mp h with rfl | h
      · omega
      · have := spl_short S r _ _ _ h
        rw [List.length_nil] at this
        omega
    · have := spl_short S r _ _ _ h
      rw [List.length_append] at this
      simp only [List.length_cons, List.length_nil] at this
      omega
  | c :: r, k + 1, acc, p, h => by
    have := spl_short S r k acc p h
    rw [List.length_cons]
    omega
theorem split_tl (t : Str) : (Txt.split t gap).map tl = TL.spl [32, 43, 32] 0 [] (tl t) := by
  have e := TL.split_spl t gap (by rw [gap_tl]; decide) (TL.kind_ok (by decide +kernel))
  rw [gap_tl] at e
  exact e
theorem split_few (t : Str) : (Txt.split t gap).length ≤ 1 + plusC (tl t) := by
  rw [← List.length_map (f := tl), split_tl]
  exact spl_few _ _ _ (Nat.le_refl _)
theorem split_short (t : Str) : ∀ w ∈ Txt.split t gap, w.length ≤ t.length := fun w hw => by
  have m : tl w ∈ TL.spl [32, 43, 32] 0 [] (tl t) := by
    rw [← split_tl]
    exact List.mem_map.mpr ⟨w, hw, rfl⟩
  have := spl_short _ _ _ _ _ m
  rw [List.length_nil, Nat.zero_add, ← len_tl, ← len_tl] at this
  exact this
/-- what a text is read to: the numbers, or that a word is bad -/
def goodF (t : Str) : Option (List Int) := if tl t = [48] then some [] else if (wordsF t).all (·.isSome) = true then some ((wordsF t).map fun o => ((o.getD 0 : Nat) : Int)) else none
theorem goodF_0 {t : Str} (h : tl t = [48]) : goodF t = some [] := if_pos h
theorem goodF_bad {t w : Str} (h : tl t ≠ [48]) (m : w ∈ Txt.split t gap) (e : shareF (tl w) = none) : goodF t = none := by
  unfold goodF
  rw [if_neg h, if_neg]
  intro z
  have := List.all_eq_true.mp z none (List.mem_map.mpr ⟨w, m, e⟩)
  cases this
theorem goodF_yes {t : Str} (h : tl t ≠ [48]) {ms : List Int} (e : ∀ (i : Nat) (w : Str), (Txt.split t gap)[i]? = some w → ∃ m : Nat, shareF (tl w) = some m ∧ ms[i]? = some (m : Int)) (l : ms.length = (Txt.split t gap).length) : goodF t = some ms := by
  have each : ∀ i (hi : i < (Txt.split t gap).length), ∃ m : Nat, shareF (tl (Txt.split t gap)[i]) = some m ∧ ms[i]? = some (m : Int) := fun i hi => e i _ (List.getElem?_eq_getElem hi)
  unfold goodF
  rw [if_neg h, if_pos]
  · congr 1
    refine List.ext_getElem? fun i => ?_
    unfold wordsF
    rw [List.map_map, List.getElem?_map]
    by_cases hi : i < (Txt.split t gap).length
    · obtain ⟨m, e1, e2⟩ := each i hi
      rw [e2, List.getElem?_eq_getElem hi]
      show some (((shareF (tl (Txt.split t gap)[i])).getD 0 : Nat) : Int) = _
      rw [e1] <;> rfl
    · rw [List.getElem?_eq_none (by omega), List.getElem?_eq_none (by omega)]
      rfl
  · refine List.all_eq_true.mpr fun o ho => ?_
    obtain ⟨w, hw, rfl⟩ := List.mem_map.mp ho
    obtain ⟨i, hi, rfl⟩ := List.getElem_of_mem hw
    obtain ⟨m, e1, _⟩ := each i hi
    rw [e1] <;> rfl

/-! ### an exception that leaves a list comprehension -/
section
open PySem.HandSPX
theorem noteFrame_at {x : Value} {a b : Env} (h : a.frame = b.frame) : noteFrame x a = noteFrame x b := by
  unfold noteFrame PySem.frameOf
  rw [h]
/-- the block's air: a call in it let an exception out -/
def airB (Z : Cx) (Ew : XK) (u : Value) (t : Shared) : Prop := ∃ (pl : List (Addr × Obj)) (τ : L2.St) (J : Hp) (r : Shared), Inv Z pl τ J r ∧ L2.CX Z.prog Z.w Z.stack J r Ew u t
theorem airB_at (Z : Cx) (Ew : XK) (τ : L2.St) : PassesAt (L2.CX Z.prog Z.w) (Z.wish (airB Z Ew)) τ Ew := fun pl J r _ _ I c => ⟨pl, τ, J, r, I.unwish, c⟩
theorem frames_but {G h k : Heap} {C : Addr} : ∀ {l : List Env}, h.FunFrames G l → (∀ L ∈ frs l, L ≠ C) → Heap.SameBut C h k → k.FunFrames G l
  | [], _, _, _ => trivial
  | v :: l, f, n, sb => by
    obtain ⟨f1, ⟨L, o, f2, f3, f4, f5⟩, f6⟩ := f
    have LC := n L (List.mem_filterMap.mpr ⟨v, List.mem_cons_self, f2⟩)
    refine ⟨f1, ⟨L, o, f2, f3, (sb.2 L LC).trans f4, f5⟩, frames_but f6 (fun M hM => ?_) sb⟩
    obtain ⟨v2, m, q⟩ := List.mem_filterMap.mp hM
    exact n M (List.mem_filterMap.mpr ⟨v2, List.mem_cons_of_mem _ m, q⟩)
/-- an exception that flies is neither new nor held -/
theorem sky_flies {B G : Heap} {l m : List Env} {a L : Addr} {Z Y : Obj → Prop} {h : Heap} (x : Sky B l a Z L h) (f : FlyingZ G m a Y h) : FlyingZ B l a Z h := by
  obtain ⟨_, _, _, o1, v1, T, oT, ts, e1, _, d1, i1, _, _, e2, d2, i2⟩ := f
  rcases x with ⟨_, _, _, o, v, e, _, d, i⟩ | x | ⟨_, _, _, o, v, T', oT', ts', e, _, d, i, _, _, e', d', i'⟩
  · rw [e1] at e
    cases e
    rw [d1] at d
    cases d
    rw [i1] at i
    cases i
  · exact x
  · rw [e1] at e
    cases e
    rw [d1] at d
    cases d
    rw [i1] at i
    cases i
    rw [e2] at e'
    cases e'
    rw [d2] at d'
    cases d'
    rw [i2] at i'
    cases i'
theorem air_out {X : Cx} {pl : List (Addr × Obj)} {σ : L2.St} {J : Hp} {r : Shared} {scope : Scope} {ce : Env} {fp : List Addr} {Ew : XK} (I : Inv X pl σ J r) (hst : X.stack = X.env :: X.outer) (hf : X.env.frame = some X.env.locals)
    (hfp : ∀ b ∈ fp, FpOk X pl J b ∧ b < r.heap.objs.size) (cl : ce.locals = r.heap.objs.size) (cf : ce.frame = X.env.frame) (tk : Takes X fun c d _ H => Ew c d H) {u : Value} {t : Shared} {E : Value → Shared → Prop} (h : airB (X.blk r J scope ce fp) Ew u t) :
    wpAny (model X.prog X.w) X.A (noteFrame u ce) (fun _ t2 => ∃ m, t2.heap.Ns ce.locals m ∧ ∀ k, Heap.SameBut ce.locals t2.heap k →
      wpAny (model X.prog X.w) X.A (passOn "comprehension.variables-let-go" u ce : Sem Value) (fun _ _ => False) X.xe { t2 with heap := k }) E t := by
  obtain ⟨pb, τ, Hb, rb, Ib, c⟩ := h
  obtain ⟨a0, _, _, _, _, ea0, fl0, _⟩ := id c
  obtain ⟨a, B, sI, pI, τI, HI, cls, d, ea, II, nb, up, sky, na, os, ag, w⟩ := XE.of_call (W := fun c d _ H => Ew c d H) Ib (fun _ _ _ z => z) c
  have same : a0 = a := by
    rw [ea] at ea0
    cases ea0
    rfl
  rw [same] at fl0
  have fly := sky_flies sky fl0
  have fly : FlyingZ B X.stack a (Zc cls d) t.heap := fly
  have nC : HI ce.locals = none := II.free
  obtain ⟨mC, hnC, _⟩ := II.loc
  have hnC : sI.heap.Ns ce.locals mC := hnC
  have Cout : ∀ L ∈ frs X.stack, L ≠ ce.locals := fun L hL z => by
    rcases List.mem_cons.mp (I.stkSub L hL) with q | q
    · have := I.lt
      rw [← q, z, cl] at this
      exact absurd this (Nat.lt_irrefl _)
    · exact I.nofs (Nat.le_of_eq (by rw [z, cl])) q
  have CnF : ce.locals ∉ frs X.stack := fun z => Cout _ z rfl
  have nb : ∀ b o, sI.heap.get? b = some o → b ∉ frs X.stack → B.get? b = some o := nb
  obtain ⟨oC, BC⟩ : ∃ oC, B.get? ce.locals = some oC := by
    obtain ⟨o, _, _, e, _⟩ := hnC
    exact ⟨o, nb _ _ e CnF⟩
  have hA : X.A.frames = some (X.env :: X.outer) := by rw [I.ok.frames, hst]
  rw [ea, noteFrame_at cf]
  rw [hst] at fly
  refine looks_onZ Zc.steady hA hf fly fun k2 held up2 => ⟨mC, hnC.at' fun o e => held.1 _ _ (nb _ _ e CnF), fun k sb => ?_⟩
  obtain ⟨q1, q2, q3, oe, vs, T, oT, ts, he, hz, hd, h1, hnT, hTe, hT, hdT, h3⟩ := held
  have aC : a ≠ ce.locals := fun z => by
    rw [z, BC] at q2
    cases q2
  have TC : T ≠ ce.locals := fun z => by
    rw [z, BC] at hnT
    cases hnT
  obtain ⟨B', b1, b2⟩ := restrict B fun b => decide (b ≠ ce.locals)
  have sub : ∀ b o, B'.get? b = some o → b ≠ ce.locals ∧ B.get? b = some o := fun b o e => by
    by_cases z : b = ce.locals
    · rw [b2 b (by simp [z])] at e
      cases e
    · exact ⟨z, by rw [← b1 b (by simp [z])]; exact e⟩
  have gone : ∀ b, B.get? b = none → B'.get? b = none := fun b e => by
    cases q : B'.get? b with
    | none => rfl
    | some o =>
      rw [(sub b o q).2] at e
      cases e
  have hst2 : ∀ L ∈ frs (X.env :: X.outer), L ≠ ce.locals := by
    rw [← hst]
    exact Cout
  have held2 : HeldZ B' (X.env :: X.outer) a (Zc cls d) X.env.locals k := by
    refine ⟨fun b o e => ?_, gone _ q2, ?_, oe, vs, T, oT, ts, (sb.2 a aC).trans he, hz, hd, h1, gone _ hnT, hTe, (sb.2 T TC).trans hT, hdT, h3⟩
    · obtain ⟨z, e⟩ := sub b o e
      exact (sb.2 b z).trans (q1 b o e)
    · refine funFrames_none (frames_but q3 hst2 sb) fun L hL => gone L ?_
      obtain ⟨n, _⟩ := Heap.FunFrames.mem q3 hL
      exact n
  unfold PySem.passOn
  refine wpAny_bind (wpAny_field ((sb.2 a aC).trans he) hd h1 ?_)
  rw [if_neg (by simp), cf, hf]
  refine wpAny_bind (setFlight_onZ held2 fun k3 held3 up3 => ?_)
  obtain ⟨G, g1, g2⟩ := restrict sI.heap fun b => decide (b ≠ ce.locals)
  have gk : ∀ b o, sI.heap.get? b = some o → b ≠ ce.locals → G.get? b = some o := fun b o e z => by
    rw [g1 b (by simp [z])]
    exact e
  have gs : ∀ b o, G.get? b = some o → b ≠ ce.locals ∧ sI.heap.get? b = some o := fun b o e => by
    by_cases z : b = ce.locals
    · rw [g2 b (by simp [z])] at e
      cases e
    · exact ⟨z, by rw [← g1 b (by simp [z])]; exact e⟩
  have IX : Inv X pl σ HI sI := I.call' (ch := fp) II.os II.base II.hok II.bare fun b hb => by
    obtain ⟨_, p1, _, p3, p4, p5⟩ := (hfp b hb).1
    exact ⟨p3, p1, p4, p5⟩
  obtain ⟨_, c1, _, c3, c4, c5⟩ := I.fpOk (H' := HI) (b := ce.locals) (Nat.le_of_eq cl.symm) nC
  have IG : Inv X pl σ HI { sI with heap := G } := by
    refine IX.call (ch := [ce.locals]) (g' := sI.gens) (t' := sI.toks) (d' := sI.drawn) ⟨fun b o e _ _ z => gk b o e (by simpa using z), fun b o e _ _ z => ⟨o.slots, gk b o e (by simpa using z)⟩, fun _ _ _ n _ => n, fun b o e z => ⟨o, gk b o e (by simpa using z)⟩, fun _ _ e => e, fun _ _ _ e => e, fun _ ps e => ⟨#[], by rw [e]; simp⟩⟩ (fun b o q => ?_) IX.bare (fun b hb => ?_)
    · refine (IX.hok b o q).stay (fun x y hx e => gk x y e fun z => ?_) (fun _ z => z) fun _ _ z => z
      rw [z, nC] at hx
      rcases hx with hx | hx
      · rw [← hx, nC] at q
        cases q
      · cases hx
    · rw [List.mem_singleton.mp hb]
      exact ⟨c3, c1, c4, c5⟩
  refine wpAny_throw (tk _ _ ⟨a, B', { sI with heap := G }, pl, σ, HI, cls, d, rfl, IG, fun b o e n => ?_, fun b o e n => ?_, ?_, na, os, ag, w⟩)
  · obtain ⟨z, e⟩ := gs b o e
    rw [b1 b (by simp [z])]
    exact nb b o e n
  · obtain ⟨z, e⟩ := gs b o e
    obtain ⟨s1, e1⟩ := up b o e n
    obtain ⟨s2, e2⟩ := up2 b _ e1 n
    obtain ⟨s3, e3⟩ := up3 b _ ((sb.2 b z).trans e2) n
    exact ⟨s3, e3⟩
  · rw [hst]
    exact .inr (.inr held3)
/-- behind a block's loop, what it makes handed to u -/
def airPost (M : Model) (A : Around) (E : Value → Shared → Prop) (u : Value → Sem Unit) (Q : Value → Shared → Prop) (acc : Value) (v : Env) : Result → Shared → Prop
  | .ok f, t => compPost M A E (some u) Q acc v.locals (.ok f) t
  | .error x, t => ∃ m, t.heap.Ns v.locals m ∧ ∀ k, Heap.SameBut v.locals t.heap k → wpAny M A (PySem.passOn "comprehension.variables-let-go" x v : Sem Value) (fun _ _ => False) E { t with heap := k }
theorem comp_air {M : Model} {A : Around} {E : Value → Shared → Prop} {s : Shared} {v : Env} {e : Expr} {sc : Scope} {pos : Pos} {mk it0 : Sem Value} {g : Comprehension} {gs : List Comprehension} {cl : List (Str × Addr)} {u : Value → Sem Unit} {Q : Value → Shared → Prop}
    (h1 : clausesOf e = g :: gs) (h2 : ∀ x, foldedSetIterable g.iter v x = pure x) (h3 : closureFor sc v = pure cl) (h4 : sc.kind = .function) (h5 : ∀ y ∈ sc.names, y.2 = .local → sc.names.lookup y.1 = some .local)
    (h : wpAny M A it0 (fun x s1 => wpAny M A (pyIter x) (fun it s2 => wpAny M A mk (fun acc s3 => wpAny M A (newFunctionEnv sc v.globals cl [] v.qual none .none (some v))
      (fun c s4 => codeAny M A (.compStart e 0 it acc { c with scope := relabel sc v }) (airPost M A E u Q acc { c with scope := relabel sc v }) s4) E s3) E s2) E s1) E s) :
    wpAny M A (comprehension e sc v pos mk false it0 (some u)) Q E s := by
  unfold comprehension
  rw [h3, h1]
  refine wpAny_bind (wpAny_mono h (fun x s1 k1 => ?_) fun _ _ z => z)
  refine wpAny_bind (wpAny_standAt ?_)
  refine wpAny_bind (wpAny_of_eq (h2 x) ?_)
  refine wpAny_bind (wpAny_holding (wpAny_mono k1 (fun it s2 k2 => ?_) fun _ _ z => z))
  refine wpAny_standIf (wpAny_bind (wpAny_mono k2 (fun acc s3 k3 => ?_) fun _ _ z => z))
  refine wpAny_bind (wpAny_pure ?_)
  refine wpAny_bind (wpAny_mono k3 (fun c s4 k4 => ?_) fun _ _ z => z)
  dsimp only
  obtain ⟨ns, ens⟩ : ∃ ns, (sc.names.filter fun y => (y.2 == .local || y.2 == .cell) && y.1 != (".0" : Str)) = ns := ⟨_, rfl⟩
  have all : ∀ y ∈ ns, y.2 = .local → Env.kindOf { c with scope := relabel sc v } y.1 = some .local := fun y hy hl => by
    rw [← ens] at hy
    exact lookup_relabel_local (h5 y (List.mem_filter.mp hy).1 hl)
  have turn : ∀ y, y ∈ ns.reverse.drop 1 ++ ns.reverse.take 1 → y ∈ ns := fun y hy => by
    rcases List.mem_append.mp hy with z | z
    · exact List.mem_reverse.mp (List.mem_of_mem_drop z)
    · exact List.mem_reverse.mp (List.mem_of_mem_take z)
  rw [ens]
  refine wpAny_holding (wpAny_bind (wpAny_attempt (wpAny_holding (wpAny_run (codeAny_mono k4 fun r t kr => ?_)))))
  cases r with
  | ok f =>
    refine wpAny_bind (wpAny_rule (wpAny_bind ?_))
    refine wpAny_holding (wpAny_mono kr (fun _ t2 k5 => ?_) fun _ _ z => z)
    obtain ⟨m, hm, k6⟩ := k5
    refine wpAny_bind (wpAny_comp_letGo (cenv := { c with scope := relabel sc v }) h4 _ t2 m (fun y hy => all y (turn y hy)) hm fun k _ _ sb => ?_)
    exact wpAny_pure (k6 k sb)
  | error x =>
    obtain ⟨m, hm, k6⟩ := kr
    refine wpAny_bind (wpAny_holding (wpAny_comp_letGo (cenv := { c with scope := relabel sc v }) h4 _ t m (fun y hy => all y (List.mem_reverse.mp hy)) hm fun k _ _ sb => ?_))
    exact wpAny_mono (k6 k sb) (fun _ _ z => z.elim) fun _ _ z => z
/-- [elt for target in iter], handed to u; elt may let an exception out -/
theorem lc_air {X : Cx} {pl : List (Addr × Obj)} {σ : L2.St} {H : Hp} {s : Shared} {Q : VK} {elt tg iter : Expr} {sc : Scope} {own : List (Str × Nat)} {pos pos2 : Pos} {wi : TI} {g : TG} {te : TE} {u : Value → Sem Unit} {Qf : Value → Shared → Prop} {Ew : XK}
    (hc : X.calm = true) (hN : X.N.Nodup) (I : Inv X pl σ H s) (hi : PI X tg iter wi) (ok : BlkOk X.N X.env.scope sc own) (hst : X.stack = X.env :: X.outer) (hf : X.env.frame = some X.env.locals) (tk : Takes X fun c d _ H => Ew c d H)
    (hg : ∀ r J C cl fp, PG (X.blk r J sc (compEnvC sc cl C X.env) fp) tg g) (he : ∀ r J C cl fp, PE ((X.blk r J sc (compEnvC sc cl C X.env) fp).wish (airB (X.blk r J sc (compEnvC sc cl C X.env) fp) Ew)) elt te)
    (hs : ∀ x, foldedSetIterable iter X.env x = pure x) (h : tLc wi g tYes te (own.map (·.2)) σ H Q)
    (fin : ∀ D C t m J, Inv X pl σ J t → Q (.ref D) J → t.heap.Ns C m → FpOk X pl J C → compPost (model X.prog X.w) X.A X.xe (some u) Qf (.ref D) C (.ok .next) t) :
    wpAny (model X.prog X.w) X.A (comprehension (.ListComp elt [⟨tg, iter, [], 0⟩] sc pos) sc X.env pos2 (newList []) false (eval iter X.env) (some u)) Qf X.xe s := by
  have clo : ∀ y ∈ sc.names, y.2 = .free → ∃ c, X.env.cells.lookup y.1 = some c := fun y hy e => (ok.free y hy e).elim (fun z => I.ok.has _ (.inl z)) fun z => I.ok.has _ (.inr z)
  refine comp_air rfl hs (closure_ok clo) ok.kind (fun y hy e => by rw [ok.uniq y hy, e]) ?_
  refine thn (hi.run pl s σ H _ I h) fun xv s1 hx => thn hx fun iv s2 hv => ?_
  obtain ⟨it, fp, tn, V, H2, rfl, I2, T, st2, f2, q⟩ := hv
  refine wpAny_newObj_type (newEnv_comp ?_) (by show 0 ≤ sizeLine; decide)
  have nD : H2 s2.heap.objs.size = none := I2.hok.fresh (Nat.le_refl _)
  obtain ⟨W, ⟨m0, w0⟩, turn⟩ := q _ nD
  have push : ∀ b o, s2.heap.get? b = some o → (s2.heap.push { cls := .type "list", data := .seq ([] : List Value).toArray }).get? b = some o := fun b o e => Heap.get?_push_of_some _ e
  have J3 : Inv X pl σ (upd H2 s2.heap.objs.size (.lst [])) { s2 with heap := s2.heap.push { cls := .type "list", data := .seq ([] : List Value).toArray } } :=
    I2.laid (t' := s2.toks) push (Nat.le_refl _) ⟨Nat.zero_le _, [], 0, .nil, Heap.get?_push_size _ rfl⟩
  have old : ∀ b ∈ fp, b < s2.heap.objs.size := fun b hb => by
    obtain ⟨o, e, _⟩ := T.obj _ _ st2 b hb
    exact Heap.lt_size e
  have st3 := T.keep _ _ _ st2 fun b _ o e => push b o e
  have f3 : ∀ b ∈ fp, FpOk X pl (upd H2 s2.heap.objs.size (.lst [])) b ∧ b < (s2.heap.push { cls := .type "list", data := .seq ([] : List Value).toArray }).objs.size := fun b hb => by
    have lt := old b hb
    refine ⟨⟨?_, (f2 b hb).2⟩, by rw [Heap.size_push]; exact Nat.lt_succ_of_lt lt⟩
    rw [upd_ne (Nat.ne_of_lt lt)]
    exact (f2 b hb).1
  obtain ⟨s3, e3⟩ : ∃ s3 : Shared, s3 = { s2 with heap := s2.heap.push { cls := .type "list", data := .seq ([] : List Value).toArray } } := ⟨_, rfl⟩
  obtain ⟨D, eD⟩ : ∃ D, s2.heap.objs.size = D := ⟨_, rfl⟩
  have sh : s3.heap = s2.heap.push { cls := .type "list", data := .seq ([] : List Value).toArray } := by rw [e3]
  rw [← e3] at J3
  rw [← sh] at f3 st3
  rw [eD] at J3 f3 w0 turn
  generalize upd H2 D (.lst []) = H3 at J3 f3 w0
  have I4 := block_start J3 ok hN f3
  have pg := hg s3 H3 s3.heap.objs.size (cellsFrom (s3.heap.objs.size + 1) sc.names (cloFrom X.env.cells sc.names [])) fp
  have pe := he s3 H3 s3.heap.objs.size (cellsFrom (s3.heap.objs.size + 1) sc.names (cloFrom X.env.cells sc.names [])) fp
  have goal : ∀ s4 : Shared, s4 = { s3 with heap := pushCells (s3.heap.push { cls := .type "dict", data := .dict #[] }) sc.names } → ∀ ce : Env, compEnvC sc (cellsFrom (s3.heap.objs.size + 1) sc.names (cloFrom X.env.cells sc.names [])) s3.heap.objs.size X.env = ce →
      codeAny (model X.prog X.w) X.A (.compStart (.ListComp elt [⟨tg, iter, [], 0⟩] sc pos) 0 (.ref it) (.ref D) ce) (airPost (model X.prog X.w) X.A X.xe u Qf (.ref D) ce) s4 := by
    intro s4 e4 ce ec
    have cL : ce.locals = s3.heap.objs.size := by rw [← ec] <;> rfl
    have cF : ce.frame = X.env.frame := by rw [← ec] <;> rfl
    rw [ec] at I4 pg pe
    rw [← e4] at I4
    have st4 : tn 0 s4.heap := T.keep _ _ _ st3 fun b _ o e => by
      rw [e4]
      exact pushCells_keeps _ _ _ _ (Heap.get?_push_of_some _ e)
    obtain ⟨Z, eZ⟩ : ∃ Z : Cx, X.blk s3 H3 sc ce fp = Z := ⟨_, rfl⟩
    have stat : ∀ {τ : L2.St} {J : Hp} {t : Shared}, Inv (X.blk s3 H3 sc ce fp) [] τ J t → (∀ b ∈ fp, J b = none) → ∀ b ∈ fp, FpOk (X.blk s3 H3 sc ce fp) [] J b := fun K n b hb =>
      ⟨n b hb, (K.ok.exf b hb).1, K.ok.exfs b hb, .inl hb, fun x c e => (K.ok.exf b hb).2 x c e, fun p hp => nomatch (show p ∈ ([] : List (Addr × Obj)) from hp)⟩
    have air : ∀ x t, airB (X.blk s3 H3 sc ce fp) Ew x t → notedBy (model X.prog X.w) X.A ce (fun e t => airPost (model X.prog X.w) X.A X.xe u Qf (.ref D) ce (.error e) t) x t := fun x t z =>
      air_out J3 hst hf f3 cL cF tk z
    have loop : codeAny (model X.prog X.w) X.A (.compLoop (.ListComp elt [⟨tg, iter, [], 0⟩] sc pos) 0 (.ref it) (.ref D) ce) (airPost (model X.prog X.w) X.A X.xe u Qf (.ref D) ce) s4 := by
      refine compLoop_any (fun n t => ∃ i J, Inv (X.blk s3 H3 sc ce fp) [] (wipe σ (own.map (·.2))) J t ∧ tn i t.heap ∧ (∀ b ∈ fp, J b = none) ∧ W i n J) ?_ m0 ⟨0, H3, I4, st4, fun b hb => (f3 b hb).1.1, w0⟩
      rintro n t5 ⟨i, J5, K5, st5, n5, w5⟩
      rcases turn i n J5 w5 with ⟨halt, qq⟩ | ⟨go, Nx, less, step⟩
      · refine thnF (T.done (X.blk s3 H3 sc ce fp) rfl rfl rfl hc i [] t5 _ J5 (fun _ _ => False) K5 (stat K5 n5) st5 halt) fun r t6 ⟨er, K6⟩ => ?_
        rw [er]
        have back : Inv X pl σ J5 t6 := J3.call' (ch := fp) K6.os K6.base K6.hok K6.bare fun b hb => by
          obtain ⟨_, p1, _, p3, p4, p5⟩ := (f3 b hb).1
          exact ⟨p3, p1, p4, p5⟩
        have nC : J5 ce.locals = none := K6.free
        obtain ⟨m, hm, _⟩ := K6.loc
        exact fin D ce.locals t6 m J5 back qq hm (J3.fpOk (Nat.le_of_eq cL.symm) nC)
      · refine thnF (T.item (X.blk s3 H3 sc ce fp) rfl rfl rfl hc i [] t5 _ J5 (fun _ _ => False) K5 (stat K5 n5) st5 go) fun r t6 ⟨v, er, k6⟩ => ?_
        rw [er]
        refine thnF k6 fun _ t7 ⟨x, J7, K7, r7, y7, st7, n7⟩ => ?_
        have P7 := K7.pinned (stat K7 n7) (T.obj _ _ st7)
        refine thnF (pg.run _ t7 _ J7 x v _ P7 r7 (step x J7 y7)) fun _ t8 ⟨τ, J8, K8, same, q8⟩ => ?_
        refine thnF ((pts_nil (X := X.blk s3 H3 sc ce fp)).run _ t8 τ J8 _ K8 q8) fun b t9 ⟨J9, K9, q9⟩ => ?_
        have again : ∀ {t : Shared} {J : Hp}, Inv (X.blk s3 H3 sc ce fp) ([] ++ pinsAt fp t7.heap) τ J t → Nx J → ∃ m, m < n ∧ ∃ i J, Inv (X.blk s3 H3 sc ce fp) [] (wipe σ (own.map (·.2))) J t ∧ tn i t.heap ∧ (∀ b ∈ fp, J b = none) ∧ W i m J := fun {t J} K nx => by
          obtain ⟨m, lt, w⟩ := less J nx
          have held : ∀ b ∈ fp, ∀ o, t7.heap.get? b = some o → t.heap.get? b = some o ∧ J b = none := fun b hb o e => by
            obtain ⟨z1, z2, _⟩ := K.pin (b, o) (List.mem_append_right _ (List.mem_append_right _ (mem_pinsAt hb e)))
            exact ⟨z1, z2⟩
          have len : (wipe σ (own.map (·.2))).length = τ.length := by rw [← same, wipe_length]
          refine ⟨m, lt, i + 1, J, (K.unpinned (pins := [])).weak len (fun j y e => ?_), T.keep _ _ _ st7 fun b hb o e => (held b hb o e).1, fun b hb => ?_, w⟩
          · rw [← same] at e
            exact (wipe_some e).1
          · obtain ⟨o, e, _⟩ := T.obj _ _ st7 b hb
            exact (held b hb o e).2
        cases b with
        | false => exact again K9 q9
        | true =>
          have q9 : te τ J9 fun y J10 => ∃ acc, J10 D = some (.lst acc) ∧ acc.length < sizeLine ∧ Nx (upd J10 D (.lst (acc ++ [y]))) := q9
          refine wpAny_mono (pe.run _ t9 τ J9 _ (K9.wish _) q9) (fun z t10 ⟨y, J10, K10, r10, acc, eD10, lt, nx⟩ => ?_) air
          exact app_ok (X := X.blk s3 H3 sc ce fp) K10.unwish eD10 lt r10 fun t11 K11 => again K11 nx
    exact codeAny_compStart_list loop (T.self X.A 0 _ _ _ st4 loop)
  rw [eD]
  rw [← e3]
  exact goal _ rfl _ rfl
/-- name = [elt for target in iter], as ps_setLc, where elt may let an exception out -/
theorem ps_setLcX {X : Cx} {i : Nat} {y : Str} {py : Pos} {elt tg iter : Expr} {sc : Scope} {own : List (Str × Nat)} {pos spos : Pos} {wi : TI} {g : TG} {te : TE} {Ew : XK}
    (hc : X.calm = true) (hN : X.N.Nodup) (hy : X.N[i]? = some y) (hl : X.env.scope.names.lookup y = some .local) (hw : swapsWith (.ListComp elt [⟨tg, iter, [], 0⟩] sc pos) (some (.Name y py)) spos.line X.env = pure true)
    (hi : PI X tg iter wi) (ok : BlkOk X.N X.env.scope sc own) (hst : X.stack = X.env :: X.outer) (hf : X.env.frame = some X.env.locals) (tk : Takes X fun c d _ H => Ew c d H)
    (hg : ∀ r J C cl fp, PG (X.blk r J sc (compEnvC sc cl C X.env) fp) tg g) (he : ∀ r J C cl fp, PE ((X.blk r J sc (compEnvC sc cl C X.env) fp).wish (airB (X.blk r J sc (compEnvC sc cl C X.env) fp) Ew)) elt te)
    (hs : ∀ x, foldedSetIterable iter X.env x = pure x := by intro _; rfl) : PS X (.Assign [.Name y py] (.ListComp elt [⟨tg, iter, [], 0⟩] sc pos) spos) (tAsg (tLc wi g tYes te (own.map (·.2))) (gName i)) := by
  refine ⟨fun pl s σ H D I h => ?_⟩
  rw [exec_Assign_Name_used _ _ _ _ hw]
  refine wpAny_bind (wpAny_standAt (wpAny_bind (wpAny_bind ?_)))
  have run := lc_air (pos := pos) (pos2 := firstIterPos [⟨tg, iter, [], 0⟩] pos) (u := assign (.Name y py) X.env) (Qf := fun _ t => SP X pl D .next t) hc hN I hi ok hst hf tk hg he hs h fun L C t m J K q hm fC => ?_
  · exact thn run fun _ t z => wpAny_pure (wpAny_pure z)
  show wpAny _ _ (assign (.Name y py) X.env (.ref L)) _ _ _
  refine wpAny_assign_Name (store_ok2 (v := V.ref L) K hN hy (.inl hl) rfl (fun t2 K2 ⟨a, sb, ha⟩ => ?_) (.inr hl))
  obtain ⟨c0, c1, _, c3, c4, c5⟩ := fC
  have Ca : C ≠ a := by
    rcases ha with z | z
    · rw [z]
      exact c1
    · exact fun e => c4 y a z e.symm
  exact ⟨m, hm.sameBut sb Ca, fun k sk => ⟨_, J, K2.turned (t' := t2.toks) (fun b o hb e => (sk.2 b hb).trans e) c0 c1 c3 c4 c5, q⟩⟩
theorem airB_in (Z : Cx) (Ew : XK) : Passes (L2.CX Z.prog Z.w) (Z.wish (airB Z Ew)) Ew := fun pl τ J r _ _ I c => ⟨pl, τ, J, r, I.unwish, c⟩
end

/-! ### a def that is called where an exception is handled, with that exception; it raises nothing -/
/-- what is asked, by the exception's address, class and dict -/
abbrev SpE := Addr → Value → Option Addr → Sp
structure FnE (P : Program) (w : World) (K : PySem.W.Frag) (mg : Str → Option Value) (base : Heap) (k : Nat) (f : Addr) (fd : FuncData) (ps : List Str) (sp : SpE) : Prop where
  len : ∀ a cls d vs H Q E, sp a cls d vs H Q E → vs.length = ps.length
  run : ∀ (A : Around) (outer : List Env) (s : Shared) (H : Hp) (args : Args) (us : List Value) (vs : List V) (Q : VK) (E : XK) (a : Addr) (oe : Obj) (cls : Value) (d : Option Addr), L2H.RoomH k A → Zc cls d oe → (∃ fs, oe.data = .fields fs) →
    L2H.PinOk outer H s (a, oe) → Env0 P w K mg base A outer s H → BindsTo s fd args (ps.zip us) → Vals vs us → sp a cls d vs H Q E → codeAny (model P w) A (.call (.ref f) args) (CR CX0 outer P w H s Q E) s
/-- how the def x stands and keeps such a promise -/
def KeepsE (P : Program) (w : World) (K : PySem.W.Frag) (mg : Str → Option Value) (base : Heap) (k : Nat) (x : Str) (ps : List Str) (sp : SpE) : Prop :=
  ∃ f fd, FnE P w K mg base k f fd ps sp ∧ Binds K fd ps [] ∧ mg x = some (.ref f) ∧ PySem.W.keepIn K (.ref f) = true
section
variable {P : Program} {w : World} {K : PySem.W.Frag} {mg : Str → Option Value} {base : Heap}
theorem fnE_of {x : Str} {st : Stmt} {f : Addr} {fd : FuncData} {N ps : List Str} {k : Nat} {sp : SpE} (F : Fun K x x st f fd) (S : FnScope N ps (defScope st)) (len : ∀ a cls d vs H Q E, sp a cls d vs H Q E → vs.length = ps.length)
    (body : ∀ (cdv : Value) (A : Around) (outer : List Env) (s : Shared) (H : Hp) (vs : List V) (Q : VK) (E : XK) (a : Addr) (oe : Obj) (cls : Value) (d : Option Addr), Zc cls d oe → (∃ fs, oe.data = .fields fs) → sp a cls d vs H Q E →
      ∃ t, PSs (L2H.cxH CX0 P w K mg base N x (defScope st) f cdv A outer s H E (a, oe)) (defBody st) t ∧ t { nx := fun _ H' => Q .non H', rt := Q } (L2.start N vs) H) : FnE P w K mg base (k + 1) f fd ps sp := by
  obtain ⟨oc, od, kV, doc, pm, an, cdv, ct, osl, rfl, look, code⟩ := F.ex
  refine ⟨len, fun A outer s H args us vs Q E a oe cls d room hz hf pin e0 binds rel want => ?_⟩
  have inK : K.In s.heap := e0.mod.kin.keeps fun b o e => (e0.bs b o e).1
  have unlim : s.heap.NoLimit := e0.mod.nolimit.keeps fun b o e => (e0.bs b o e).1
  have kinds : ∀ y ∈ ps.zip us, (defScope st).names.lookup y.1 = some .local ∨ ((defScope st).names.lookup y.1 = some .cell ∧ ((cellsFrom (s.heap.objs.size + 1) (defScope st).names []).lookup y.1).isSome = true) := by
    rintro ⟨n, v⟩ hy
    rcases S.par n (List.of_mem_zip hy).1 with q | q
    · exact .inl q
    · exact .inr ⟨q, PySem.W.cellsFrom_some _ _ _ (.inl q)⟩
  refine codeAny_call_function room.depth (inK _ _ look) rfl S.co S.gen rfl (PySem.W.codeRec_of inK code) (binds _ _ _ _ ?_)
  refine wpAny_newFunctionEnv_cells S.kind kinds fun env isEnv s1 inCall => ?_
  subst isEnv
  refine ⟨unlim.keeps inCall.toInCall.keep, codeAny_func ?_⟩
  obtain ⟨t, walks, tq⟩ := body cdv A outer s H vs Q E a oe cls d hz hf want
  have I := L2H.inv_startH (CX := CX0) (E := E) S pin e0 (len _ _ _ _ _ _ _ want) rel inCall
  refine wpAny_mono (walks.run [] s1 _ H _ I tq) (fun fl s' ends => ?_) fun e s' ends => ends
  cases fl with
  | ret u =>
    obtain ⟨v, σ', H', J, rv, q⟩ := ends
    exact ⟨v, H', J.os, J.bare, J.base, J.hok, rv, q⟩
  | next =>
    obtain ⟨σ', H', J, q⟩ := ends
    exact ⟨V.non, H', J.os, J.bare, J.base, J.hok, rfl, q⟩
  | brk =>
    obtain ⟨_, _, _, q⟩ := ends
    cases q
  | cont =>
    obtain ⟨_, _, _, q⟩ := ends
    cases q
end
def tCallE (sp : Sp) (t : TA) : TE := fun σ H Q => t σ H fun vs H1 => sp vs H1 Q fun _ _ _ => False
theorem pe_callE {X : Cx} {k : Nat} {f a : Addr} {fd : FuncData} {ps : List Str} {sp : SpE} {x : Str} {p pos : PySem.Pos} {e : Expr} {es : List Expr} {t : TA} {oe : Obj} {cls : Value} {d : Option Addr}
    (F : FnE X.prog X.w X.K X.mg X.base k f fd ps sp) (hr : L2H.RoomH k X.A) (hin : (a, oe) ∈ X.pn) (hz : Zc cls d oe) (hf : ∃ fs, oe.data = .fields fs) (hg : Gl X x) (hm : X.mg x = some (.ref f)) (hk : PySem.W.keepIn X.K (.ref f) = true)
    (hb : Binds X.K fd ps []) (ha : PA X (e :: es) t) (hdb : (x == ("__debug__" : Str)) = false := by decide) (he : starEach (e :: es) X.env = (false, eval e X.env) :: starEach es X.env := by rfl) (hpl : (backTo pos (starEach es X.env)).any (·.1) = false := by rfl) :
    PE X (.Call (.Name x p) (e :: es) [] pos) (tCallE (sp a cls d) t) := by
  refine ⟨fun pins s σ H Q I h => wpAny_Call_Name_kw (ld_glob I hg hm ?_ hdb)⟩
  refine PySem.W.callWith_K (h₀ := X.base) I.ok.mod.kin hk (thn (ha.run pos pins s σ H _ I h) fun us s1 ⟨vs, H1, I1, rel, q⟩ => ⟨I1.kIn, ?_⟩) he hpl
  have lens : us.length = ps.length := rel.length.symm.trans (F.len _ _ _ _ _ _ _ q)
  have bind := hb s1 us I1.kIn (by rw [List.append_nil]; exact lens)
  rw [List.append_nil] at bind
  have at1 := I1.pin (a, oe) (List.mem_append_left _ hin)
  have pinned : L2H.PinOk X.stack H1 s1 (a, oe) := ⟨at1.1, at1.2.1, fun m => (List.mem_cons.mp (I1.stkSub a m)).elim at1.2.2.1 at1.2.2.2.1, at1.2.2.2.2⟩
  refine wpAny_call (codeAny_mono (F.run X.A X.stack s1 H1 ⟨us, []⟩ us vs Q _ a oe cls d hr hz hf pinned I1.env0 bind rel q) fun r s' ends => ?_)
  cases r with
  | error e => cases ends
  | ok fl =>
    cases fl with
    | ret u => exact I1.after ends
    | next => cases ends
    | brk => cases ends
    | cont => cases ends
/-- isinstance(e, c), e an exception that the context holds -/
theorem call_isP {X : Cx} {a D : Addr} {oe : Obj} (hin : (a, oe) ∈ X.pn) (C : ExcC X.K D) (hz : Zc (.ref D) none oe) (hf : ∃ fs, oe.data = .fields fs) : CallR X (.builtin "isinstance") (rIsE X.K D a) := by
  intro pins s σ H xs us Q I rel h
  obtain ⟨c, cv, b, rfl, hcv, e, q⟩ := h
  obtain ⟨u, us, rfl, rx, rel⟩ : ∃ u r, us = u :: r ∧ RelV (.ref a) u ∧ Vals [c] r := by
    cases rel with
    | cons rx rr => exact ⟨_, _, rfl, rx, rr⟩
  obtain ⟨u2, rfl, rc⟩ := vals1 rel
  cases rx
  obtain rfl := hcv _ rc
  obtain ⟨there, _⟩ := I.pin (a, oe) (List.mem_append.mpr (.inl hin))
  obtain ⟨fs, isF⟩ := hf
  have inst : PySem.W.InstAt s.heap a oe D none := by
    obtain ⟨oc, od, oda, osl⟩ := oe
    obtain ⟨h1, h2⟩ := hz
    dsimp only at h1 h2 isF
    subst h1 h2 isF
    exact ⟨there, rfl, rfl, trivial⟩
  exact PySem.W.kia_one (PySem.W.handS_kitx_exc C.hg C.hk C.hs C.hd C.ha C.hn C.ht C.hm) I.kIn inst e (fun z => nomatch z) fun tk => ⟨.bl b, H, I.kept (t' := tk) fun _ _ z => z, rfl, q⟩
theorem roomE {j k : Nat} {A : Around} {h : Option Value} (r : Room k A) (l : j ≤ k) : L2H.RoomH j (A.mark h) := ⟨(r.mono l).dp, (r.mono l).un⟩
/-- isinstance of an own class, told by the classes above -/
theorem kit_refs {K : PySem.W.Frag} {D C : Addr} {b : Bool} (hd : PySem.W.hasDictIn K C = true) (ht : PySem.W.typeIn K (.ref C) = some (.type "type")) (hs : PySem.W.subIn K (.ref D) (.ref C) = some b) (self : PySem.W.subIn K (.ref D) (.ref D) = some true) :
    PySem.W.kitOne K (.ref D) (.ref C) = some b := by
  unfold PySem.W.kitOne
  split
  · rename_i q
    cases (eq_of_beq q : Value.ref D = Value.ref C)
    rw [hs] at self
    exact self.symm
  · obtain ⟨cd, hc, _⟩ := PySem.W.any_some hd
    have e : ((PySem.W.clsIn K C).isSome && PySem.W.typeIn K (.ref C) == some (.type "type")) = true := by rw [hc, ht] <;> rfl
    show (if ((PySem.W.clsIn K C).isSome && PySem.W.typeIn K (.ref C) == some (.type "type")) = true then PySem.W.subIn K (.ref D) (.ref C) else none) = some b
    rw [if_pos e]
    exact hs
theorem meta_ve : PySem.W.kitMeta "ValueError" = true := by decide +kernel
theorem kit_ve {K : PySem.W.Frag} {D : Addr} {b : Bool} (hs : PySem.W.subIn K (.ref D) (.type "ValueError") = some b) : PySem.W.kitOne K (.ref D) (.type "ValueError") = some b := by
  unfold PySem.W.kitOne
  rw [if_neg (fun z => nomatch (eq_of_beq z : Value.ref D = Value.type "ValueError"))]
  show (if PySem.W.kitMeta "ValueError" = true then PySem.W.subIn K (.ref D) (.type "ValueError") else none) = some b
  rw [if_pos meta_ve]
  exact hs

--: math = sz
/-! ### a text taken so many times; great written numbers -/
theorem op_rep_str {X : Cx} : OpR X (binaryOp .Mult) (fun x y H Q => ∃ (z : Str) (n : Int), x = .str z ∧ y = .int n ∧ MulOk z n ∧ Q (.str (Txt.mul z n)) H) := by
  intro pins s σ H x y v u Q I rx ry h
  obtain ⟨z, n, rfl, rfl, ok, q⟩ := h
  obtain ⟨t, rfl⟩ := rx
  obtain ⟨t', rfl⟩ := ry
  exact SB.mul ok fun t1 k => ⟨.str _, H, I.tok _, ⟨_, rfl⟩, q⟩
/-- 1 and so many noughts behind it -/
structure Noughts (k : Nat) : Prop where
  ok : MulOk "0" (k : Int)
  len : ("1" : Str).length + (Txt.mul "0" (k : Int)).length ≤ 640
  num : PySem.intText? ("1" ++ Txt.mul "0" (k : Int)) = some ((10 ^ k : Nat) : Int)
  len2 : (("1" : Str) ++ Txt.mul "0" (k : Int)).length ≤ 640

--: math = sz
/-! ### lowest terms -/
def gc (a b : Int) : Int := ((Int.gcd a b : Nat) : Int)
def low (t b : Int) : Int × Int := (t / gc t b, b / gc t b)
theorem gc_nn (a b : Int) : 0 ≤ gc a b := Int.natCast_nonneg _
theorem gc_pos {t b : Int} (h : 1 ≤ b) : 0 < gc t b := by
  have : Int.gcd t b ≠ 0 := fun z => by
    have := (Int.gcd_eq_zero_iff.mp z).2
    omega
  unfold gc
  omega
theorem gc_dl (t b : Int) : gc t b ∣ t := Int.gcd_dvd_left ..
theorem gc_dr (t b : Int) : gc t b ∣ b := Int.gcd_dvd_right ..
theorem gc_le {t b : Int} (h : 1 ≤ b) : gc t b ≤ b := Int.le_of_dvd (by omega) (gc_dr t b)
theorem low_t (t b : Int) : (low t b).1 * gc t b = t := Int.ediv_mul_cancel (gc_dl t b)
theorem low_b (t b : Int) : (low t b).2 * gc t b = b := Int.ediv_mul_cancel (gc_dr t b)
theorem low_bpos {t b : Int} (h : 1 ≤ b) : 1 ≤ (low t b).2 := by
  have g := gc_pos (t := t) h
  have e := low_b t b
  by_cases z : 1 ≤ (low t b).2
  · exact z
  · have : (low t b).2 * gc t b ≤ 0 := Int.mul_nonpos_of_nonpos_of_nonneg (by omega) (by omega)
    omega
theorem low_tnn {t b : Int} (h : 1 ≤ b) (h0 : 0 ≤ t) : 0 ≤ (low t b).1 := Int.ediv_nonneg h0 (gc_nn t b)
theorem low_ble {t b : Int} (h : 1 ≤ b) : (low t b).2 ≤ b := Int.ediv_le_self _ (by omega)
theorem low_tle {t b : Int} (h0 : 0 ≤ t) : (low t b).1 ≤ t := Int.ediv_le_self _ h0
theorem low_cross (t b : Int) : t * (low t b).2 = (low t b).1 * b := by
  have h1 := low_t t b
  have h2 := low_b t b
  calc t * (low t b).2 = (low t b).1 * gc t b * (low t b).2 := by rw [h1]
    _ = (low t b).1 * ((low t b).2 * gc t b) := by rw [Int.mul_assoc, Int.mul_comm (gc t b)]
    _ = (low t b).1 * b := by rw [h2]
theorem low_scale {t b k : Int} (h : 0 < k) : low (t * k) (b * k) = low t b := by
  unfold low gc
  rw [Int.gcd_mul_right, Int.natCast_mul, Int.natAbs_of_nonneg (by omega), Int.mul_ediv_mul_of_pos_left _ _ h, Int.mul_ediv_mul_of_pos_left _ _ h]
theorem low_uniq {t b t' b' : Int} (h : 0 < b) (h' : 0 < b') (e : t * b' = t' * b) : low t b = low t' b' := by
  rw [← low_scale (t := t) (b := b) h', ← low_scale (t := t') (b := b') h, e, Int.mul_comm b b']
theorem low_low {t b : Int} (h : 1 ≤ b) : low (low t b).1 (low t b).2 = low t b :=
  low_uniq (by have := low_bpos (t := t) h; omega) (by omega) (low_cross t b).symm
theorem low_of_eq {t b t' b' : Int} (h : 1 ≤ b) (e : low t b = low t' b') : t * b' = t' * b := by
  have c1 := low_cross t b
  have c2 := low_cross t' b'
  rw [← e] at c2
  have hb := low_bpos (t := t) h
  refine Int.eq_of_mul_eq_mul_right (a := (low t b).2) (by omega) ?_
  calc t * b' * (low t b).2 = t * (low t b).2 * b' := by rw [Int.mul_assoc, Int.mul_comm b', Int.mul_assoc]
    _ = (low t b).1 * b' * b := by rw [c1, Int.mul_assoc, Int.mul_comm b, ← Int.mul_assoc]
    _ = t' * b * (low t b).2 := by rw [← c2, Int.mul_assoc, Int.mul_comm _ b, ← Int.mul_assoc]
theorem gc_step {x y : Int} : gc y (x % y) = gc x y := by
  unfold gc
  rw [Int.gcd_comm x y]
  have h := Int.gcd_add_mul_left_right y (x % y) (x / y)
  rw [Int.emod_add_mul_ediv] at h
  rw [h]
theorem gc_zero {x : Int} (h : 0 ≤ x) : gc x 0 = x := by
  unfold gc
  rw [Int.gcd_zero_right]
  omega
/-- what _law_lowest's two divisions ask -/
theorem low_divs {t b : Int} (hb : 1 ≤ b) (z : Sz 9000 b) : CDivP t (gc t b) ∧ CDivP b (gc t b) := by
  have g := gc_pos (t := t) hb
  have zg : Sz 9000 (gc t b) := z.le (by omega) (gc_le hb)
  exact ⟨zg.cd g, zg.cd g⟩
theorem low_near {t b : Int} (hb : 1 ≤ b) (h1 : Sz 3000 (low t b).1) (h2 : Sz 3000 (low t b).2) : CDivP t (gc t b) ∧ CDivP b (gc t b) := by
  have g := gc_pos (t := t) hb
  have e1 := congrArg Int.natAbs (low_t t b)
  have e2 := congrArg Int.natAbs (low_b t b)
  rw [Int.natAbs_mul] at e1 e2
  have h1 : (low t b).1.natAbs < 2 ^ 3000 := h1
  have h2 : (low t b).2.natAbs < 2 ^ 3000 := h2
  refine ⟨cdp_near (k := 3000) g ?_, cdp_near (k := 3000) g ?_⟩
  · rw [← e1]
    exact Nat.mul_le_mul_right _ (Nat.le_of_lt h1)
  · rw [← e2]
    exact Nat.mul_le_mul_right _ (Nat.le_of_lt h2)

--: math = low
/-! ### sums of shares -/
def sumS (xs : List Int) : Int × Int := xs.foldl (fun p s => (p.1 * s + p.2, p.2 * s)) (0, 1)
/-- the sum of the shares, in lowest terms -/
def lowS (xs : List Int) : Int × Int := low (sumS xs).1 (sumS xs).2
/-- shares: none below one -/
def Pos (xs : List Int) : Prop := ∀ x ∈ xs, (1 : Int) ≤ x
theorem sumS_snoc (xs : List Int) (s : Int) : sumS (xs ++ [s]) = ((sumS xs).1 * s + (sumS xs).2, (sumS xs).2 * s) := by
  unfold sumS
  rw [List.foldl_append] <;> rfl
theorem sumS_nil : sumS [] = (0, 1) := rfl
theorem low_01 : low 0 1 = (0, 1) := by decide
theorem lowS_nil : lowS [] = (0, 1) := low_01
theorem Pos.snoc {xs : List Int} {s : Int} (h : Pos (xs ++ [s])) : Pos xs ∧ 1 ≤ s :=
  ⟨fun x hx => h x (List.mem_append_left _ hx), h s (List.mem_append_right _ List.mem_cons_self)⟩
theorem sumS_pos (xs : List Int) : Pos xs → 0 ≤ (sumS xs).1 ∧ 1 ≤ (sumS xs).2 ∧ (sumS xs).1 ≤ xs.length * (sumS xs).2 := by
  refine snoc_ind (fun xs => Pos xs → 0 ≤ (sumS xs).1 ∧ 1 ≤ (sumS xs).2 ∧ (sumS xs).1 ≤ xs.length * (sumS xs).2) xs (fun _ => ⟨by decide, by decide, by decide⟩) (fun l x ih h => ?_)
  obtain ⟨h1, h2⟩ := h.snoc
  obtain ⟨a, b, c⟩ := ih h1
  rw [sumS_snoc, List.length_append]
  have p1 : 0 ≤ (sumS l).1 * x := Int.mul_nonneg a (by omega)
  have p2 : 0 < (sumS l).2 * x := Int.mul_pos (by omega) (by omega)
  refine ⟨by show 0 ≤ (sumS l).1 * x + (sumS l).2; omega, p2, ?_⟩
  show (sumS l).1 * x + (sumS l).2 ≤ ((l.length + 1 : Nat) : Int) * ((sumS l).2 * x)
  have q1 : (sumS l).1 * x ≤ l.length * (sumS l).2 * x := Int.mul_le_mul_of_nonneg_right c (by omega)
  have q2 : (sumS l).2 * 1 ≤ (sumS l).2 * x := Int.mul_le_mul_of_nonneg_left h2 (by omega)
  rw [Int.natCast_add, Int.add_mul, ← Int.mul_assoc]
  omega
theorem pos_take {xs : List Int} (h : Pos xs) (i : Nat) : Pos (xs.take i) := fun x hx => h x (List.mem_of_mem_take hx)
theorem sumS_append_le (ys xs : List Int) : Pos (xs ++ ys) → (sumS xs).2 ≤ (sumS (xs ++ ys)).2 := by
  refine snoc_ind (fun ys => Pos (xs ++ ys) → (sumS xs).2 ≤ (sumS (xs ++ ys)).2) ys (fun _ => ?_) (fun l x ih h => ?_)
  · rw [List.append_nil]
    exact Int.le_refl _
  · rw [← List.append_assoc] at h ⊢
    obtain ⟨h1, h2⟩ := h.snoc
    have a := ih h1
    have b := (sumS_pos _ h1).2.1
    rw [sumS_snoc (xs ++ l)]
    show (sumS xs).2 ≤ (sumS (xs ++ l)).2 * x
    have : (sumS (xs ++ l)).2 * 1 ≤ (sumS (xs ++ l)).2 * x := Int.mul_le_mul_of_nonneg_left h2 (by omega)
    omega
theorem sumS_take_le {xs : List Int} (h : Pos xs) (i : Nat) : (sumS (xs.take i)).2 ≤ (sumS xs).2 := by
  have := sumS_append_le (xs.drop i) (xs.take i)
  rw [List.take_append_drop] at this
  exact this h
/-- sizes within a sum -/
structure SumOk (xs : List Int) : Prop where
  pos : Pos xs
  sz : Sz 4000 (sumS xs).2
  len : xs.length ≤ 1000
theorem SumOk.take {xs : List Int} (h : SumOk xs) (i : Nat) : SumOk (xs.take i) where
  pos := pos_take h.pos i
  sz := h.sz.le (by have := (sumS_pos _ (pos_take h.pos i)).2.1; omega) (sumS_take_le h.pos i)
  len := by
    have := h.len
    rw [List.length_take]
    omega
theorem SumOk.top {xs : List Int} (h : SumOk xs) : Sz 4010 (sumS xs).1 := by
  obtain ⟨a, b, c⟩ := sumS_pos _ h.pos
  have hl : Sz 10 (xs.length : Int) := by
    have := h.len
    show (xs.length : Int).natAbs < 1024
    omega
  exact (hl.mul h.sz).mono.le a c
theorem SumOk.item {xs : List Int} (h : SumOk xs) {i : Nat} {s : Int} (e : xs[i]? = some s) : 1 ≤ s ∧ Sz 4000 s := by
  have hs : 1 ≤ s := h.pos s (List.mem_of_getElem? e)
  have k := (h.take (i + 1)).sz
  rw [List.take_add_one, e] at k
  have k : Sz 4000 (sumS (xs.take i ++ [s])).2 := k
  rw [sumS_snoc] at k
  have b := (sumS_pos _ (pos_take h.pos i)).2.1
  refine ⟨hs, Sz.le k (by omega) ?_⟩
  show s ≤ (sumS (xs.take i)).2 * s
  have : 1 * s ≤ (sumS (xs.take i)).2 * s := Int.mul_le_mul_of_nonneg_right b (by omega)
  omega
theorem low_step {t b s : Int} (hb : 1 ≤ b) (hs : 1 ≤ s) : low ((low t b).1 * s + 1 * (low t b).2) ((low t b).2 * s) = low (t * s + b) (b * s) := by
  have h := low_bpos (t := t) hb
  have p1 : 0 < (low t b).2 * s := Int.mul_pos (by omega) (by omega)
  have p2 : 0 < b * s := Int.mul_pos (by omega) (by omega)
  refine low_uniq p1 p2 ?_
  have c := low_cross t b
  generalize (low t b).1 = x at *
  generalize (low t b).2 = y at *
  have c2 : t * y * (s * s) = x * b * (s * s) := by rw [c]
  simp only [Int.add_mul, Int.mul_add, Int.one_mul] at *
  simp only [Int.mul_comm, Int.mul_left_comm, Int.mul_assoc] at *
  omega
theorem lowS_snoc {xs : List Int} {s : Int} (h : Pos xs) (hs : 1 ≤ s) : low ((lowS xs).1 * s + 1 * (lowS xs).2) ((lowS xs).2 * s) = lowS (xs ++ [s]) := by
  unfold lowS
  rw [low_step (sumS_pos _ h).2.1 hs, sumS_snoc]
theorem prod_sz {m : Nat} (xs : List Int) : (∀ x ∈ xs, (1 : Int) ≤ x ∧ Sz m x) → Sz (m * xs.length + 1) (sumS xs).2 := by
  refine snoc_ind (fun xs => (∀ x ∈ xs, (1 : Int) ≤ x ∧ Sz m x) → Sz (m * xs.length + 1) (sumS xs).2) xs (fun _ => Sz.one (by show 0 < m * 0 + 1; omega)) (fun l x ih h => ?_)
  have h1 := ih fun y hy => h y (List.mem_append_left _ hy)
  have h2 := (h x (List.mem_append_right _ List.mem_cons_self)).2
  rw [sumS_snoc, List.length_append]
  exact (h1.mul h2).mono (by show m * l.length + 1 + m ≤ m * (l.length + 1) + 1; rw [Nat.mul_add]; omega)
theorem cm_prod {x y : Int} {n : Nat} (hx : 0 ≤ x) (hy : 1 ≤ y) (h : Sz n (x * y)) (h2 : Sz n y) (h0 : 0 < n := by decide) (hn : n ≤ 1000000 := by decide) : CMulW x y := by
  unfold CMulW
  by_cases z : x = 0
  · subst z
    have := PySem.Flt.log2_lt_of h0 h2
    have e : (0 : Int).natAbs.log2 = 0 := by decide
    omega
  · have a := Nat.log2_self_le (n := x.natAbs) (by omega)
    have b := Nat.log2_self_le (n := y.natAbs) (by omega)
    have c : 2 ^ (x.natAbs.log2 + y.natAbs.log2) < 2 ^ n := by
      rw [Nat.pow_add]
      refine Nat.lt_of_le_of_lt (Nat.mul_le_mul a b) ?_
      rw [← Int.natAbs_mul]
      exact h
    have := (Nat.pow_lt_pow_iff_right (by decide : 1 < 2)).mp c
    omega
/-- sizes within a sum, great ones -/
structure SumC (xs : List Int) : Prop where
  pos : Pos xs
  sz : Sz 600000 (sumS xs).2
  len : xs.length ≤ 1000
  d1 : CDivP (sumS xs).1 (gc (sumS xs).1 (sumS xs).2)
  d2 : CDivP (sumS xs).2 (gc (sumS xs).1 (sumS xs).2)
theorem SumOk.c {xs : List Int} (h : SumOk xs) : SumC xs := by
  obtain ⟨a, b, c⟩ := sumS_pos _ h.pos
  have g := gc_pos (t := (sumS xs).1) b
  have z : Sz 9000 (gc (sumS xs).1 (sumS xs).2) := (h.sz.mono : Sz 9000 _).le (by omega) (gc_le b)
  exact ⟨h.pos, h.sz.mono, h.len, z.cd g, z.cd g⟩
theorem SumC.at {xs : List Int} (h : SumC xs) (i : Nat) : Sz 600000 (sumS (xs.take i)).2 ∧ Sz 600010 (sumS (xs.take i)).1 := by
  obtain ⟨a, b, c⟩ := sumS_pos _ (pos_take h.pos i)
  have s2 : Sz 600000 (sumS (xs.take i)).2 := h.sz.le (by omega) (sumS_take_le h.pos i)
  have hl : Sz 10 ((xs.take i).length : Int) := by
    have := h.len
    have : (xs.take i).length ≤ xs.length := by rw [List.length_take]; omega
    show ((xs.take i).length : Int).natAbs < 1024
    omega
  exact ⟨s2, (hl.mul s2).mono.le a c⟩
theorem SumC.step {xs : List Int} (h : SumC xs) {i : Nat} {s : Int} (e : xs[i]? = some s) : CMulW (sumS (xs.take i)).1 s ∧ CMulW (sumS (xs.take i)).2 s := by
  have hs : 1 ≤ s := h.pos s (List.mem_of_getElem? e)
  obtain ⟨a, b, c⟩ := sumS_pos _ (pos_take h.pos i)
  have k := h.at (i + 1)
  rw [take_snoc e, sumS_snoc] at k
  obtain ⟨k1, k2⟩ := k
  have k1 : Sz 600000 ((sumS (xs.take i)).2 * s) := k1
  have k2 : Sz 600010 ((sumS (xs.take i)).1 * s + (sumS (xs.take i)).2) := k2
  have p1 : 0 ≤ (sumS (xs.take i)).1 * s := Int.mul_nonneg a (by omega)
  have s1 : s ≤ (sumS (xs.take i)).2 * s := by
    have : 1 * s ≤ (sumS (xs.take i)).2 * s := Int.mul_le_mul_of_nonneg_right b (by omega)
    omega
  have zs : Sz 600000 s := k1.le (by omega) s1
  exact ⟨cm_prod (n := 600010) a hs (k2.le p1 (by omega)) zs.mono, cm_prod (n := 600000) (by omega) hs k1 zs⟩

--: math = sums
/-! ### rising factors -/
/-- the least number that is no less than t / b -/
def upF (t b : Int) : Int := (t + b - 1) / b
theorem upF_hi {B T : Int} (h : 1 ≤ T) : B ≤ upF B T * T := by
  have e := Int.emod_add_mul_ediv (B + T - 1) T
  have l := Int.emod_lt_of_pos (B + T - 1) (b := T) (by omega)
  rw [Int.mul_comm] at e
  unfold upF
  omega
theorem upF_lo {B T : Int} (h : 1 ≤ T) : (upF B T - 1) * T < B := by
  have e := Int.emod_add_mul_ediv (B + T - 1) T
  have l := Int.emod_nonneg (B + T - 1) (b := T) (by omega)
  rw [Int.mul_comm] at e
  unfold upF
  rw [Int.sub_mul]
  omega
theorem upF_uniq {B T n : Int} (h : 1 ≤ T) (h1 : (n - 1) * T < B) (h2 : B ≤ n * T) : upF B T = n := by
  have a := upF_hi (B := B) h
  have b := upF_lo (B := B) h
  have c1 : upF B T - 1 < n := Int.lt_of_mul_lt_mul_right (Int.lt_of_lt_of_le b h2) (by omega)
  have c2 : n - 1 < upF B T := Int.lt_of_mul_lt_mul_right (Int.lt_of_lt_of_le h1 a) (by omega)
  omega
theorem upF_two {B T : Int} (h : 1 ≤ T) (hb : T < B) : 2 ≤ upF B T := by
  have a := upF_hi (B := B) h
  by_cases c : 2 ≤ upF B T
  · exact c
  · have : upF B T * T ≤ 1 * T := Int.mul_le_mul_of_nonneg_right (by omega) (by omega)
    omega
theorem upF_le {B T : Int} (h : 1 ≤ T) (hb : 1 ≤ B) : upF B T ≤ B := by
  have b := upF_lo (B := B) h
  by_cases c : upF B T ≤ B
  · exact c
  · have : B * T ≤ (upF B T - 1) * T := Int.mul_le_mul_of_nonneg_right (by omega) (by omega)
    have : B * 1 ≤ B * T := Int.mul_le_mul_of_nonneg_left h (by omega)
    omega
theorem upF_pos {B T : Int} (h : 1 ≤ T) (hb : 1 ≤ B) : 1 ≤ upF B T := by
  have a := upF_hi (B := B) h
  by_cases c : 1 ≤ upF B T
  · exact c
  · have : upF B T * T ≤ 0 * T := Int.mul_le_mul_of_nonneg_right (by omega) (by omega)
    omega
/-- what is left of the top -/
def nxt (T B : Int) : Int := T * upF B T - B
theorem nxt_nn {T B : Int} (h : 1 ≤ T) : 0 ≤ nxt T B := by
  have a := upF_hi (B := B) h
  unfold nxt
  rw [Int.mul_comm]
  omega
theorem nxt_lt {T B : Int} (h : 1 ≤ T) : nxt T B < T := by
  have b := upF_lo (B := B) h
  rw [Int.sub_mul] at b
  unfold nxt
  rw [Int.mul_comm]
  omega
def rf : Nat → Int → Int → List Int
  | 0, _, _ => []
  | k + 1, T, B => if T ≤ 0 then [] else upF B T :: rf k (nxt T B) B
/-- the numbers of the rising factors of T / B -/
def rfs (T B : Int) : List Int := rf T.toNat T B
theorem rf_fuel : ∀ (k : Nat) (T B : Int), T.toNat ≤ k → rf k T B = rf T.toNat T B
  | 0, T, B, h => by
    have e : T.toNat = 0 := by omega
    rw [e]
  | k + 1, T, B, h => by
    by_cases c : T ≤ 0
    · have e : T.toNat = 0 := by omega
      rw [e]
      show (if T ≤ 0 then [] else _) = _
      rw [if_pos c] <;> rfl
    · obtain ⟨m, em⟩ : ∃ m, T.toNat = m + 1 := ⟨T.toNat - 1, by omega⟩
      have l := nxt_lt (T := T) (B := B) (by omega)
      rw [em]
      show (if T ≤ 0 then [] else upF B T :: rf k (nxt T B) B) = (if T ≤ 0 then [] else upF B T :: rf m (nxt T B) B)
      rw [rf_fuel k (nxt T B) B (by omega), rf_fuel m (nxt T B) B (by omega)]
theorem rfs_nil {T B : Int} (h : T ≤ 0) : rfs T B = [] := by
  have e : T.toNat = 0 := by omega
  unfold rfs
  rw [e] <;> rfl
theorem rfs_cons {T B : Int} (h : 1 ≤ T) : rfs T B = upF B T :: rfs (nxt T B) B := by
  obtain ⟨m, em⟩ : ∃ m, T.toNat = m + 1 := ⟨T.toNat - 1, by omega⟩
  have l := nxt_lt (T := T) (B := B) h
  unfold rfs
  rw [em]
  show (if T ≤ 0 then [] else upF B T :: rf m (nxt T B) B) = _
  rw [if_neg (by omega), rf_fuel m (nxt T B) B (by omega)]
/-- by what is left -/
theorem rfs_ind (P : Int → Prop) {B : Int} (h0 : ∀ T, T ≤ 0 → P T) (hs : ∀ T, 1 ≤ T → P (nxt T B) → P T) : ∀ T, P T := fun T => by
  have : ∀ (k : Nat) (T : Int), T.toNat ≤ k → P T := fun k => by
    induction k with
    | zero => exact fun T h => h0 T (by omega)
    | succ k ih =>
      intro T h
      by_cases c : T ≤ 0
      · exact h0 T c
      · have l := nxt_lt (T := T) (B := B) (by omega)
        exact hs T (by omega) (ih _ (by omega))
  exact this _ T (Nat.le_refl _)
theorem upF_rel {T B t b : Int} (hT : 1 ≤ T) (ht : 1 ≤ t) (hB : 1 ≤ B) (hb : 1 ≤ b) (e : T * b = t * B) : upF B T = upF b t := by
  have a1 := upF_hi (B := b) ht
  have a2 := upF_lo (B := b) ht
  generalize upF b t = n at *
  refine upF_uniq hT ?_ ?_
  · refine Int.lt_of_mul_lt_mul_right (a := b) ?_ (by omega)
    have : (n - 1) * T * b = (n - 1) * t * B := by rw [Int.mul_assoc, e, ← Int.mul_assoc]
    rw [this, Int.mul_comm B b]
    exact Int.mul_lt_mul_of_pos_right a2 (by omega)
  · refine Int.le_of_mul_le_mul_right (a := b) ?_ (by omega)
    have : n * T * b = n * t * B := by rw [Int.mul_assoc, e, ← Int.mul_assoc]
    rw [this, Int.mul_comm B b]
    exact Int.mul_le_mul_of_nonneg_right a1 (by omega)
theorem rfs_rel {B b : Int} (hB : 1 ≤ B) (hb : 1 ≤ b) : ∀ (T t : Int), 0 ≤ T → 0 ≤ t → T * b = t * B → rfs T B = rfs t b := by
  refine rfs_ind (B := B) (fun T => ∀ t, 0 ≤ T → 0 ≤ t → T * b = t * B → rfs T B = rfs t b) (fun T h t h0 h1 e => ?_) (fun T h ih t h0 h1 e => ?_)
  · have z : T = 0 := by omega
    subst z
    rw [Int.zero_mul] at e
    have zt : t = 0 := (Int.mul_eq_zero.mp e.symm).resolve_right (by omega)
    subst zt
    rw [rfs_nil (Int.le_refl 0), rfs_nil (Int.le_refl 0)]
  · have ht : 1 ≤ t := by
      by_cases z : t = 0
      · rw [z, Int.zero_mul] at e
        have := Int.mul_pos (a := T) (b := b) (by omega) (by omega)
        omega
      · omega
    have eu := upF_rel h ht hB hb e
    rw [rfs_cons h, rfs_cons ht, eu]
    congr 1
    refine ih _ (nxt_nn h) (nxt_nn ht) ?_
    unfold nxt
    rw [eu, Int.sub_mul, Int.sub_mul, Int.mul_right_comm, e, Int.mul_right_comm, Int.mul_comm b B]
/-- each is two or more, none falls, none above B -/
theorem rfs_low {B : Int} (hB : 1 ≤ B) : ∀ T, T < B → (∀ n ∈ rfs T B, 2 ≤ n ∧ n ≤ B) ∧ (rfs T B).Pairwise (· ≤ ·) ∧ (1 ≤ T → ∀ n ∈ rfs T B, upF B T ≤ n) := by
  refine rfs_ind (B := B) (fun T => T < B → (∀ n ∈ rfs T B, 2 ≤ n ∧ n ≤ B) ∧ (rfs T B).Pairwise (· ≤ ·) ∧ (1 ≤ T → ∀ n ∈ rfs T B, upF B T ≤ n)) (fun T h _ => ?_) (fun T h ih hT => ?_)
  · rw [rfs_nil h]
    exact ⟨fun _ m => (nomatch m), List.Pairwise.nil, fun _ _ m => (nomatch m)⟩
  · have l := nxt_lt (B := B) h
    obtain ⟨i1, i2, i3⟩ := ih (by omega)
    have up : ∀ n ∈ rfs (nxt T B) B, upF B T ≤ n := fun n hn => by
      by_cases c : 1 ≤ nxt T B
      · have a := i3 c n hn
        have b1 := upF_hi (B := B) c
        have b2 := upF_lo (B := B) h
        have : (upF B T - 1) * nxt T B ≤ (upF B T - 1) * T := Int.mul_le_mul_of_nonneg_left (by omega) (by have := upF_two h hT; omega)
        have : (upF B T - 1) * nxt T B < upF B (nxt T B) * nxt T B := by omega
        have := Int.lt_of_mul_lt_mul_right this (by omega)
        omega
      · rw [rfs_nil (by omega)] at hn
        cases hn
    rw [rfs_cons h]
    refine ⟨fun n hn => ?_, List.pairwise_cons.mpr ⟨up, i2⟩, fun _ n hn => ?_⟩
    · rcases List.mem_cons.mp hn with rfl | m
      · exact ⟨upF_two h hT, upF_le h hB⟩
      · exact i1 n m
    · rcases List.mem_cons.mp hn with rfl | m
      · exact Int.le_refl _
      · exact up n m
theorem rfs_len {B : Int} : ∀ T, 0 ≤ T → ((rfs T B).length : Int) ≤ T := by
  refine rfs_ind (B := B) (fun T => 0 ≤ T → ((rfs T B).length : Int) ≤ T) (fun T h h0 => ?_) (fun T h ih _ => ?_)
  · rw [rfs_nil h]
    exact h0
  · have l := nxt_lt (B := B) h
    have := ih (nxt_nn h)
    rw [rfs_cons h, List.length_cons]
    omega

--: math = sz
/-! ### the text of a number -/
theorem ns_none {K : PySem.W.Frag} {h : Heap} {a : Addr} {m : Str → Option Value} {n : Str} (X : K.In h) (G : h.Ns a m) (e : PySem.W.nsIn K a n = some none) : m n = none := by
  obtain ⟨o, rows, fill, there, isD, _, says⟩ := G
  revert e
  unfold PySem.W.nsIn
  split
  · rename_i q
    have q := (X _ _ q).symm.trans there
    cases q
    cases isD
    intro e
    split at e
    · cases e
    · rename_i none
      rw [← says, nsFind, PySem.findBy, ← Array.find?_toList, none]
      rfl
  · exact fun e => nomatch e
/-- str(n), below the line that the interpreter draws -/
theorem call_str_big {X : Cx} (hc : X.calm = true) (hd : PySem.W.nsIn X.K cStatics "sys.int_max_str_digits" = some none) : CallR X (.type "str") (fun xs H Q => ∃ i, xs = [.int i] ∧ i.natAbs < 10 ^ 4300 ∧ Q (.str (toString i)) H) := by
  intro pins s σ H xs us Q I r h
  obtain ⟨i, rfl, hz, q⟩ := h
  obtain ⟨u, rfl, t, rfl⟩ := vals1 r
  obtain ⟨mc, ns, _⟩ := I.nolimit
  exact str_of_int_or (I.ok.hd hc) ⟨mc, ns, ns_none I.kIn ns hd⟩ (fun _ => ⟨.str _, H, I.tok _, ⟨_, rfl⟩, q⟩) (fun z => absurd hz (Nat.not_lt.mpr z))
/-- how many signs a number has -/
def slen (i : Int) : Nat := (Str.ofString (toString i)).length
theorem slen_le {i : Int} (h : 0 ≤ i) {k : Nat} (hk : 0 < k) : slen i ≤ k ↔ i.natAbs < 10 ^ k := by
  obtain ⟨n, rfl⟩ := Int.eq_ofNat_of_zero_le h
  unfold slen
  rw [PySem.ofString_length]
  exact Nat.length_repr_le_iff hk
theorem ten400 : (10 ^ 400 : Nat) < 2 ^ 1330 := by decide +kernel
theorem big4300 : (2 ^ 2700 : Nat) < 10 ^ 4300 := by decide +kernel
/-- more than 400 figures -/
def Big (i : Int) : Prop := 400 < slen i
instance (i : Int) : Decidable (Big i) := inferInstanceAs (Decidable (400 < slen i))
theorem not_big {i : Int} (h : 0 ≤ i) (b : ¬ Big i) : Sz 1330 i := Nat.lt_trans ((slen_le h (by decide)).mp (Nat.not_lt.mp b)) ten400
theorem slen_fits {i : Int} (h : 0 ≤ i) (z : Sz 2700 i) : slen i ≤ sizeLine := Nat.le_trans ((slen_le (k := 4300) h (by decide)).mpr (Nat.lt_trans z big4300)) (szl (by decide))
theorem big_dec {i : Int} : decide ((400 : Int) < ((Str.ofString (toString i)).length : Int)) = decide (Big i) := by
  refine decide_eq_decide.mpr ?_
  unfold Big slen
  omega

--: math = rf
--: math = digits
/-! ### the greatest share first -/
/-- what is left, in lowest terms -/
def lft (T B : Int) : Int × Int := low (nxt T B) (B * upF B T)
/-- the shares, or None where one has too great a number -/
def gw : Nat → Int → Int → Option (List Int)
  | 0, _, _ => some []
  | k + 1, T, B => if T ≤ 0 then some [] else if Big (upF B T) then none else (gw k (lft T B).1 (lft T B).2).map (upF B T :: ·)
def gws (T B : Int) : Option (List Int) := gw T.toNat T B
theorem lft_b {T B : Int} (h : 1 ≤ T) (hB : 1 ≤ B) : 1 ≤ (lft T B).2 := low_bpos (Int.mul_pos (by omega) (by have := upF_pos (B := B) (T := T) h hB; omega))
theorem lft_nn {T B : Int} (h : 1 ≤ T) (hB : 1 ≤ B) : 0 ≤ (lft T B).1 := low_tnn (Int.mul_pos (by omega) (by have := upF_pos (B := B) (T := T) h hB; omega)) (nxt_nn h)
theorem lft_lt {T B : Int} (h : 1 ≤ T) : (lft T B).1 < T := Int.lt_of_le_of_lt (low_tle (nxt_nn h)) (nxt_lt h)
theorem lft_cross (T B : Int) : nxt T B * (lft T B).2 = (lft T B).1 * (B * upF B T) := low_cross _ _
theorem lft_below {T B : Int} (h : 1 ≤ T) (hB : 1 ≤ B) (hT : T < B) : (lft T B).1 < (lft T B).2 := by
  have s2 := upF_two h hT
  have l := nxt_lt (B := B) h
  have c := lft_cross T B
  have p := lft_b h hB
  have q : 0 < B * upF B T := Int.mul_pos (by omega) (by omega)
  refine Int.lt_of_mul_lt_mul_right (a := B * upF B T) ?_ (by omega)
  rw [← c, Int.mul_comm]
  refine Int.mul_lt_mul_of_pos_left ?_ (by omega)
  have : B * 1 ≤ B * upF B T := Int.mul_le_mul_of_nonneg_left (by omega) (by omega)
  omega
/-- behind a share n the next one's number is above n * (n - 1) -/
theorem lft_grow {T B : Int} (h : 1 ≤ T) (hB : 1 ≤ B) (hT : T < B) (hl : 1 ≤ (lft T B).1) : upF B T * (upF B T - 1) < upF (lft T B).2 (lft T B).1 := by
  have lo := upF_lo (B := B) h
  have s2 := upF_two h hT
  have c := lft_cross T B
  have hi := upF_hi (B := (lft T B).2) hl
  generalize upF (lft T B).2 (lft T B).1 = m at *
  generalize (lft T B).1 = T' at *
  have b1 := lft_b h hB
  generalize (lft T B).2 = B' at *
  have nx : nxt T B = T * upF B T - B := rfl
  generalize upF B T = n at *
  rw [nx] at c
  -- (T n - B) B' = T' B n, B' <= m T', (n - 1) T < B
  have np : 0 < T * n - B := by
    by_cases z : 0 < T * n - B
    · exact z
    · have a : (T * n - B) * B' ≤ 0 := Int.mul_nonpos_of_nonpos_of_nonneg (by omega) (by omega)
      have b : 0 < T' * (B * n) := Int.mul_pos (by omega) (Int.mul_pos (by omega) (by omega))
      omega
  have k : n * (n - 1) * ((T * n - B) * B') < m * ((T * n - B) * B') := by
    have e1 : m * ((T * n - B) * B') = m * T' * (B * n) := by rw [c, Int.mul_assoc]
    have e2 : n * (n - 1) * ((T * n - B) * B') = (n - 1) * (T * n - B) * (B' * n) := by
      simp only [Int.mul_comm, Int.mul_left_comm, Int.mul_assoc]
    rw [e1, e2]
    have e3 : (n - 1) * (T * n - B) < B := by
      have : (n - 1) * (T * n - B) = n * ((n - 1) * T) - (n - 1) * B := by
        rw [Int.mul_sub]
        congr 1
        simp only [Int.mul_comm, Int.mul_left_comm, Int.mul_assoc]
      have q1 : n * ((n - 1) * T) < n * B := Int.mul_lt_mul_of_pos_left lo (by omega)
      have q2 : (n - 1) * B = n * B - B := by rw [Int.sub_mul, Int.one_mul]
      omega
    have e4 : (n - 1) * (T * n - B) * (B' * n) < B * (B' * n) := Int.mul_lt_mul_of_pos_right e3 (Int.mul_pos (by omega) (by omega))
    have e5 : B * (B' * n) ≤ m * T' * (B * n) := by
      have : B * (B' * n) = B' * (B * n) := by simp only [Int.mul_comm, Int.mul_left_comm, Int.mul_assoc]
      rw [this]
      exact Int.mul_le_mul_of_nonneg_right hi (Int.mul_nonneg (by omega) (by omega))
    omega
  exact Int.lt_of_mul_lt_mul_right k (Int.le_of_lt (Int.mul_pos np (by omega)))
theorem gw_fuel : ∀ (k : Nat) (T B : Int), T.toNat ≤ k → gw k T B = gw T.toNat T B
  | 0, T, B, h => by
    have e : T.toNat = 0 := by omega
    rw [e]
  | k + 1, T, B, h => by
    by_cases c : T ≤ 0
    · have e : T.toNat = 0 := by omega
      rw [e]
      show (if T ≤ 0 then some [] else _) = _
      rw [if_pos c] <;> rfl
    · obtain ⟨m, em⟩ : ∃ m, T.toNat = m + 1 := ⟨T.toNat - 1, by omega⟩
      have l := lft_lt (T := T) (B := B) (by omega)
      rw [em]
      show (if T ≤ 0 then some [] else if Big (upF B T) then none else (gw k (lft T B).1 (lft T B).2).map (upF B T :: ·)) = (if T ≤ 0 then some [] else if Big (upF B T) then none else (gw m (lft T B).1 (lft T B).2).map (upF B T :: ·))
      rw [gw_fuel k (lft T B).1 (lft T B).2 (by omega), gw_fuel m (lft T B).1 (lft T B).2 (by omega)]
theorem gws_nil {T B : Int} (h : T ≤ 0) : gws T B = some [] := by
  have e : T.toNat = 0 := by omega
  unfold gws
  rw [e] <;> rfl
theorem gws_step {T B : Int} (h : 1 ≤ T) : gws T B = if Big (upF B T) then none else (gws (lft T B).1 (lft T B).2).map (upF B T :: ·) := by
  obtain ⟨m, em⟩ : ∃ m, T.toNat = m + 1 := ⟨T.toNat - 1, by omega⟩
  have l := lft_lt (T := T) (B := B) h
  unfold gws
  rw [em]
  show (if T ≤ 0 then some [] else if Big (upF B T) then none else (gw m (lft T B).1 (lft T B).2).map (upF B T :: ·)) = _
  rw [if_neg (by omega), gw_fuel m (lft T B).1 (lft T B).2 (by omega)]
theorem gws_big {T B : Int} (h : 1 ≤ T) (b : Big (upF B T)) : gws T B = none := by rw [gws_step h, if_pos b]
theorem gws_cons {T B : Int} (h : 1 ≤ T) (b : ¬ Big (upF B T)) : gws T B = (gws (lft T B).1 (lft T B).2).map (upF B T :: ·) := by rw [gws_step h, if_neg b]
/-- by what is left, while no number is too great -/
theorem gws_ind (P : Int → Int → List Int → Prop) (h0 : ∀ T B, T ≤ 0 → 1 ≤ B → P T B []) (hs : ∀ T B xs, 1 ≤ T → T < B → ¬ Big (upF B T) → gws (lft T B).1 (lft T B).2 = some xs → P (lft T B).1 (lft T B).2 xs → P T B (upF B T :: xs)) :
    ∀ T B xs, 1 ≤ B → T < B → gws T B = some xs → P T B xs := fun T B xs => by
  have : ∀ (k : Nat) (T B : Int) (xs : List Int), T.toNat ≤ k → 1 ≤ B → T < B → gws T B = some xs → P T B xs := fun k => by
    induction k with
    | zero =>
      intro T B xs h hB _ e
      rw [gws_nil (by omega)] at e
      cases e
      exact h0 T B (by omega) hB
    | succ k ih =>
      intro T B xs h hB hT e
      by_cases c : T ≤ 0
      · rw [gws_nil c] at e
        cases e
        exact h0 T B c hB
      · have l := lft_lt (T := T) (B := B) (by omega)
        by_cases b : Big (upF B T)
        · rw [gws_big (by omega) b] at e
          cases e
        · rw [gws_cons (by omega) b] at e
          cases g : gws (lft T B).1 (lft T B).2 with
          | none =>
            rw [g] at e
            cases e
          | some ys =>
            rw [g] at e
            cases e
            exact hs T B ys (by omega) hT b g (ih _ _ _ (by omega) (lft_b (by omega) hB) (lft_below (by omega) hB hT) g)
  exact this _ T B xs (Nat.le_refl _)
theorem gws_len : ∀ T B xs, 1 ≤ B → T < B → gws T B = some xs → 0 ≤ T → (xs.length : Int) ≤ T := by
  refine gws_ind (fun T B xs => 0 ≤ T → (xs.length : Int) ≤ T) (fun T B h _ h0 => h0) (fun T B xs h hT _ _ ih _ => ?_)
  have l := lft_lt (T := T) (B := B) h
  have := ih (lft_nn h (by omega))
  rw [List.length_cons]
  omega
/-- each two or more, and each above n * (n - 1) for the n ahead -/
def Grows : List Int → Prop
  | x :: y :: r => x * (x - 1) < y ∧ Grows (y :: r)
  | _ => True
theorem gws_first {T B : Int} {x : Int} {xs : List Int} (e : gws T B = some (x :: xs)) : 1 ≤ T ∧ x = upF B T := by
  by_cases c : T ≤ 0
  · rw [gws_nil c] at e
    cases e
  · have c : 1 ≤ T := by omega
    refine ⟨c, ?_⟩
    by_cases b : Big (upF B T)
    · rw [gws_big c b] at e
      cases e
    · rw [gws_cons c b] at e
      cases g : gws (lft T B).1 (lft T B).2 with
      | none =>
        rw [g] at e
        cases e
      | some ys =>
        rw [g] at e
        cases e
        rfl
theorem gws_grows : ∀ T B xs, 1 ≤ B → T < B → gws T B = some xs → (∀ x ∈ xs, 2 ≤ x) ∧ Grows xs := by
  refine gws_ind (fun T B xs => (∀ x ∈ xs, 2 ≤ x) ∧ Grows xs) (fun T B h _ => ⟨fun _ m => (nomatch m), True.intro⟩) (fun T B xs h hT b g ih => ?_)
  refine ⟨fun x m => ?_, ?_⟩
  · rcases List.mem_cons.mp m with rfl | m
    · exact upF_two h hT
    · exact ih.1 x m
  · cases xs with
    | nil => exact True.intro
    | cons y r =>
      obtain ⟨l1, rfl⟩ := gws_first g
      exact ⟨lft_grow h (by omega) hT l1, ih.2⟩
theorem grows_at : ∀ {xs : List Int} {j : Nat} {x y : Int}, Grows xs → xs[j]? = some x → xs[j + 1]? = some y → x * (x - 1) < y
  | [], _, _, _, _, e, _ => nomatch e
  | [a], 0, _, _, _, _, e => nomatch e
  | [a], j + 1, _, _, _, e, _ => nomatch e
  | a :: b :: r, 0, x, y, h, e1, e2 => by
    cases e1
    cases e2
    exact h.1
  | a :: b :: r, j + 1, x, y, h, e1, e2 => grows_at (xs := b :: r) (j := j) h.2 e1 e2
theorem fold_gws : ∀ T B xs, 1 ≤ B → T < B → gws T B = some xs → 0 ≤ T → ∀ u v : Int, (xs.foldl (fun q s => (q.1 * s + q.2, q.2 * s)) (u, v)).1 * (v * B) = (u * B + T * v) * (xs.foldl (fun q s => (q.1 * s + q.2, q.2 * s)) (u, v)).2 := by
  refine gws_ind (fun T B xs => 0 ≤ T → ∀ u v : Int, (xs.foldl (fun q s => (q.1 * s + q.2, q.2 * s)) (u, v)).1 * (v * B) = (u * B + T * v) * (xs.foldl (fun q s => (q.1 * s + q.2, q.2 * s)) (u, v)).2) (fun T B h _ h0 u v => ?_) (fun T B xs h hT b g ih _ u v => ?_)
  · have z : T = 0 := by omega
    subst z
    rw [Int.zero_mul, Int.add_zero]
    show u * (v * B) = u * B * v
    rw [Int.mul_comm v B, Int.mul_assoc u]
  · have n1 := upF_pos (B := B) h (by omega)
    have l1 := lft_b h (by omega : 1 ≤ B)
    have e := ih (lft_nn h (by omega)) (u * upF B T + v) (v * upF B T)
    have c := lft_cross T B
    have nx : nxt T B = T * upF B T - B := rfl
    rw [nx] at c
    show (List.foldl _ (u * upF B T + v, v * upF B T) xs).1 * (v * B) = (u * B + T * v) * (List.foldl _ (u * upF B T + v, v * upF B T) xs).2
    revert e
    generalize List.foldl (fun q s => (q.1 * s + q.2, q.2 * s)) (u * upF B T + v, v * upF B T) xs = X
    generalize (lft T B).1 = T' at *
    generalize (lft T B).2 = B' at *
    generalize upF B T = n at *
    obtain ⟨x, y⟩ := X
    intro e
    have e : x * (v * n * B') = ((u * n + v) * B' + T' * (v * n)) * y := e
    show x * (v * B) = (u * B + T * v) * y
    have pn : 0 < n * B' := Int.mul_pos (by omega) (by omega)
    refine Int.eq_of_mul_eq_mul_right (a := n * B') (by omega) ?_
    have l : x * (v * B) * (n * B') = x * (v * n * B') * B := by
      simp only [Int.mul_comm, Int.mul_left_comm, Int.mul_assoc]
    have k : T' * (v * n) * B = v * ((T * n - B) * B') := by
      rw [c]
      simp only [Int.mul_comm, Int.mul_left_comm, Int.mul_assoc]
    have r : (u * B + T * v) * y * (n * B') = ((u * n + v) * B' + T' * (v * n)) * y * B := by
      have : ((u * n + v) * B' + T' * (v * n)) * y * B = ((u * n + v) * B' * B + T' * (v * n) * B) * y := by
        rw [Int.mul_right_comm, Int.add_mul ((u * n + v) * B')]
      rw [this, k]
      simp only [Int.add_mul, Int.mul_sub, Int.sub_mul]
      simp only [Int.mul_comm, Int.mul_left_comm, Int.mul_assoc]
      omega
    rw [l, r, e]
theorem low_gws {T B : Int} {xs : List Int} (hB : 1 ≤ B) (hT : T < B) (h0 : 0 ≤ T) (e : gws T B = some xs) (h : Pos xs) : lowS xs = low T B := by
  have e := fold_gws T B xs hB hT e h0 0 1
  have b := (sumS_pos _ h).2.1
  refine low_uniq (by omega) (by omega) ?_
  have e : (sumS xs).1 * (1 * B) = (0 * B + T * 1) * (sumS xs).2 := e
  rw [Int.zero_mul, Int.mul_one, Int.one_mul, Int.zero_add] at e
  exact e
theorem gws_sz : ∀ T B xs, 1 ≤ B → T < B → gws T B = some xs → ∀ u v : Int, 1 ≤ v → Sz 2660 v → (1 ≤ T → v < upF B T) → Sz 2660 (xs.foldl (fun q s => (q.1 * s + q.2, q.2 * s)) (u, v)).2 := by
  refine gws_ind (fun T B xs => ∀ u v : Int, 1 ≤ v → Sz 2660 v → (1 ≤ T → v < upF B T) → Sz 2660 (xs.foldl (fun q s => (q.1 * s + q.2, q.2 * s)) (u, v)).2) (fun T B h _ u v _ z _ => z) (fun T B xs h hT b g ih u v v1 z hv => ?_)
  have n1 := upF_pos (B := B) h (by omega)
  have zs := not_big (by omega) b
  have hv := hv h
  have zv : Sz 1330 v := zs.le (by omega) (by omega)
  refine ih (u * upF B T + v) (v * upF B T) (Int.mul_pos (by omega) (by omega)) (zv.mul zs) (fun l1 => ?_)
  have g := lft_grow h (by omega) hT l1
  have : v * upF B T ≤ upF B T * (upF B T - 1) := by
    rw [Int.mul_comm]
    exact Int.mul_le_mul_of_nonneg_left (by omega) (by omega)
  omega
theorem gws_ok {T B : Int} {xs : List Int} (hB : 1 ≤ B) (hT : T < B) (h1 : T ≤ 1000) (e : gws T B = some xs) : SumOk xs where
  pos := fun x hx => by
    have := (gws_grows T B xs hB hT e).1 x hx
    omega
  sz := (gws_sz T B xs hB hT e 0 1 (by decide) Sz.one (fun h => by have := upF_two h hT; omega) : Sz 2660 (sumS xs).2).mono
  len := by
    by_cases c : T ≤ 0
    · rw [gws_nil c] at e
      cases e
      exact Nat.zero_le _
    · have := gws_len T B xs hB hT e (by omega)
      omega
/-- sizes on the way -/
theorem lft_sz {T B : Int} (h : 1 ≤ T) (hB : 1 ≤ B) (hT : T ≤ 1000) (b : ¬ Big (upF B T)) : Sz 1340 B ∧ Sz 1330 (upF B T) ∧ Sz 2670 (lft T B).2 ∧ (lft T B).1 ≤ 1000 := by
  have n1 := upF_pos (B := B) h hB
  have zs := not_big (by omega) b
  have zT : Sz 10 T := by
    show T.natAbs < 1024
    omega
  have zB : Sz 1340 B := (zs.mul zT).le (by omega) (upF_hi h)
  refine ⟨zB, zs, (zB.mul zs).le (by have := lft_b h hB; omega) (low_ble (Int.mul_pos (by omega) (by omega))), ?_⟩
  have := lft_lt (T := T) (B := B) h
  omega
/-- the law's own ceiling -/
theorem up_law {T B : Int} (h : 1 ≤ T) : (if B / T * T < B then B / T + 1 else B / T) = upF B T := by
  have e := Int.emod_add_mul_ediv B T
  have m1 := Int.emod_nonneg B (b := T) (by omega)
  have m2 := Int.emod_lt_of_pos B (b := T) (by omega)
  rw [Int.mul_comm] at e
  refine (upF_uniq h ?_ ?_).symm
  · split
    · rw [show B / T + 1 - 1 = B / T by omega]
      assumption
    · rw [Int.sub_mul]
      omega
  · split
    · rw [Int.add_mul]
      omega
    · omega

--: math = greedy
--: math = ris
theorem dp_noneK {K : PySem.W.Frag} {H : Hp} {p l : Addr} {b0 b1 b2 b3 b4 b5 : Bool} (h : H p = some (.tup [.non, .ref l])) (g : H l = some (.lst [.bl b0, .bl b1, .bl b2, .bl b3, .bl b4, .bl b5])) :
    Dp K H (.ref p) (.tuple [.none, .list [.bool b0, .bool b1, .bool b2, .bool b3, .bool b4, .bool b5]]) :=
  .tup (SqT.of h) (.cons .non (.cons (.lst (SqL.of g) (.cons (.bl _) (.cons (.bl _) (.cons (.bl _) (.cons (.bl _) (.cons (.bl _) (.cons (.bl _) .nil))))))) .nil))
theorem eqv_noneK (b0 b1 b2 b3 b4 b5 : Bool) : PyData.eqv (.tuple [.none, .list [.bool b0, .bool b1, .bool b2, .bool b3, .bool b4, .bool b5]]) (.tuple [.none, .list [.bool b0, .bool b1, .bool b2, .bool b3, .bool b4, .bool b5]]) = true := by
  simp [PyData.eqv, PyData.eqvAll]
theorem low_drawn {t b : Int} (h1 : 1 ≤ t) (h2 : t < b) : 1 ≤ (low t b).1 ∧ (low t b).1 < (low t b).2 ∧ (low t b).2 ≤ b ∧ (low t b).1 ≤ t := by
  have c0 := low_cross t b
  have l1 := low_bpos (t := t) (by omega : 1 ≤ b)
  have l2 := low_tnn (t := t) (by omega : 1 ≤ b) (by omega)
  refine ⟨?_, ?_, low_ble (by omega), low_tle (by omega)⟩
  · by_cases z : (low t b).1 = 0
    · rw [z, Int.zero_mul] at c0
      have := Int.mul_pos (a := t) (b := (low t b).2) (by omega) (by omega)
      omega
    · omega
  · refine Int.lt_of_mul_lt_mul_right (a := b) ?_ (by omega)
    rw [← c0, Int.mul_comm]
    exact Int.mul_lt_mul_of_pos_left h2 (by omega)

structure ErrA where
  ShareError : Addr
  NoFraction : Addr
  NotBelow : Addr
  TooGreat : Addr
  BadText : Addr
  NotRising : Addr
structure ErrC (K : PySem.W.Frag) (mg : Str → Option Value) (C S : Addr) (x : Str) : Prop where
  g : mg x = some (.ref C)
  x : PySem.W.excIn K C veT "ValueError.__new__" = true
  k : PySem.W.keepIn K (.ref C) = true
  b : PySem.W.subIn K (.ref C) (.type "BaseException") = some true
  t : PySem.W.typeIn K (.ref C) = some (.type "type")
structure KindOf (K : PySem.W.Frag) (e : ErrA) (D : Addr) (b0 b1 b2 b3 b4 b5 : Bool) : Prop where
  exc : ExcC K D
  k0 : PySem.W.kitOne K (.ref D) (.ref e.NoFraction) = some b0
  k1 : PySem.W.kitOne K (.ref D) (.ref e.NotBelow) = some b1
  k2 : PySem.W.kitOne K (.ref D) (.ref e.TooGreat) = some b2
  k3 : PySem.W.kitOne K (.ref D) (.ref e.BadText) = some b3
  k4 : PySem.W.kitOne K (.ref D) (.ref e.NotRising) = some b4
  k5 : PySem.W.kitOne K (.ref D) (.type "ValueError") = some b5
structure ErrOk (K : PySem.W.Frag) (mg : Str → Option Value) (e : ErrA) : Prop where
  ShareError : ErrC K mg e.ShareError e.ShareError "ShareError"
  NoFraction : ErrC K mg e.NoFraction e.ShareError "NoFraction"
  NotBelow : ErrC K mg e.NotBelow e.ShareError "NotBelow"
  TooGreat : ErrC K mg e.TooGreat e.ShareError "TooGreat"
  BadText : ErrC K mg e.BadText e.ShareError "BadText"
  NotRising : ErrC K mg e.NotRising e.ShareError "NotRising"
  sub_BadText : PySem.W.exmOne K (.ref e.BadText) (.ref e.ShareError) = some true
  kind_BadText : KindOf K e e.BadText false false false true false true
  sub_NotRising : PySem.W.exmOne K (.ref e.NotRising) (.ref e.ShareError) = some true
  kind_NotRising : KindOf K e e.NotRising false false false false true true

section
variable {P : Program} {w : World} {K : PySem.W.Frag} {mg : Str → Option Value} {base : Heap} {e : ErrA}

abbrev s_share_of : Stmt := topS 9
abbrev N_share_of : List Str := ["word", "figures", "sign"]
theorem sc_share_of : FnScope N_share_of ["word"] (defScope s_share_of) := ⟨rfl, rfl, rfl, by decide +kernel, rfl, by decide +kernel, by decide +kernel⟩
open TL
def sp_share_of (K : PySem.W.Frag) (e : ErrA) : Sp := fun vs H Q E => ∃ w : Str, vs = [.str w] ∧ w.length ≤ 1000000 ∧ (shareF (tl w) = none → E (.ref e.BadText) none H) ∧ (∀ m : Nat, shareF (tl w) = some m → Q (.int m) H)
theorem ok_share_of (D : Stands K mg "share_of" s_share_of) (B : Bi mg) (Er : ErrOk K mg e)
    (h_FIGURES : ∃ t, mg "FIGURES" = some (.str "0123456789" t)) : Keeps P w K mg base 1 "share_of" ["word"] (sp_share_of K e) := by
  obtain ⟨f, fd, F, mF⟩ := D
  obtain ⟨t_FIGURES, h_FIGURES⟩ := h_FIGURES
  have h_BadText := Er.BadText
  refine ⟨f, fd, ?_, F.binds (ps := ["word"]) (fun _ _ _ _ _ _ us hl => match us, hl with | [_], _ => rfl), mF, F.kp⟩
  refine F.okX sc_share_of (fun vs H Q E h => ?_) (fun cdv A outer s H vs Q E hr h => ?_)
  · obtain ⟨w, rfl, hl, kE, kQ⟩ := h
    rfl
  · obtain ⟨w, rfl, hl, kE, kQ⟩ := h
    refine ⟨_, (pss_cons (ps_set (i := 1) sc_share_of.nd rfl (Or.inl rfl) (pe_slice sl_str (pv 0) (po_some pe_int) po_none))
      (pss_cons (ps_if (PW.pt (pw_or (pt_cmpR op_ne (pe_slice sl_str (pv 0) po_none (po_some pe_int)) pe_str (nomark _)) (pw_or (pt_cmpR op_eq (pv 1) pe_str (nomark _)) (pw_or (pt_cmpR op_gt (pe_callB call_len_str (by rfl) B.len (by decide +kernel) (pa_cons (pv 1) pa_nil)) pe_int (nomark _)) (pw_or1 (pt_cmpR op_eq (pe_ix ix_str (pv 1) pe_int (fun _ _ => rfl)) pe_str (nomark _))))))) (pss_one (ps_raise rfl (takes_of rfl rfl rfl rfl) (pmk_own PySem.F.excBase_ValueError h_BadText.x h_BadText.g h_BadText.k (raises_own h_BadText.b h_BadText.t) rfl))) pss_nil)
      (pss_cons (ps_for (passes_of rfl) rfl (pi_str (pv 1)) (pg_name (i := 2) sc_share_of.nd rfl (Or.inl rfl)) (pss_one (ps_if (pt_cmpR op_notIn_sign (pv 2) (pe_glob (v := .str "0123456789") (by rfl) h_FIGURES ⟨_, rfl⟩) rfl) (pss_one (ps_raise rfl (takes_of rfl rfl rfl rfl) (pmk_own PySem.F.excBase_ValueError h_BadText.x h_BadText.g h_BadText.k (raises_own h_BadText.b h_BadText.t) rfl))) pss_nil)))
      (pss_one (ps_ret (pe_callTy call_int_str (by rfl) B.int (by decide +kernel) (pa_cons (pv 1) pa_nil))))))), ?_⟩
    have zw : w.length ≤ sizeLine := szl (by omega)
    refine ⟨_, rfl, _, rfl, w, rfl, zw, ?_⟩
    have ef := cut_from w
    have fl := cutS_length w (some 2) none
    dsimp only
    generalize cutS w (some 2) none = fig at ef fl
    have zf : fig.length ≤ sizeLine := szl (by omega)
    refine ⟨_, rfl, _, rfl, w, rfl, zw, rfl, _, rfl, ?_⟩
    by_cases h1 : (tl w).take 2 = [49, 47]
    · rw [show decide (V.str (cutS w none (some 2)) = V.str "1/") = true from decide_eq_true (str_eq.mpr (by rw [cut_to, h1, lit_1]))]
      refine iteF ?_
      refine ⟨_, rfl, rfl, _, rfl, ?_⟩
      by_cases h2 : tl fig = []
      · rw [show decide (V.str fig = V.str "") = true from decide_eq_true (str_eq.mpr (by rw [h2, lit_e]))]
        refine iteT (iteT ?_)
        exact kE (shareF_no fun z => z.2.1 (by rw [← ef]; exact h2))
      · rw [show decide (V.str fig = V.str "") = false from decide_eq_false (fun z => h2 (by rw [str_eq.mp z, lit_e]))]
        refine iteF ?_
        refine ⟨_, rfl, fig, rfl, zf, _, _, rfl, rfl, _, rfl, ite2 (fun h3 => ?_) (fun h3 => ?_)⟩
        · refine iteT ?_
          have h3 : (400 : Int) < (fig.length : Int) := of_decide_eq_true h3
          refine kE (shareF_no fun z => ?_)
          have := z.2.2.1
          rw [← ef, ← len_tl] at this
          omega
        · have h3 : ¬ (400 : Int) < (fig.length : Int) := fun z => h3 (decide_eq_true z)
          obtain ⟨c, r, ec⟩ := List.exists_cons_of_ne_nil h2
          have at0 : (tl fig)[0]? = some c := by rw [ec] <;> rfl
          refine ⟨_, rfl, fig, _, c, rfl, rfl, zf, atI_nat (j := 0) at0, rfl, _, rfl, ?_⟩
          by_cases h4 : c = 48
          · rw [show decide (V.str ⟨#[c]⟩ = V.str "0") = true from decide_eq_true (by rw [h4] <;> rfl)]
            refine iteT ?_
            refine kE (shareF_no fun z => z.2.2.2.1 ?_)
            rw [← ef, ec, h4] <;> rfl
          · rw [show decide (V.str ⟨#[c]⟩ = V.str "0") = false from decide_eq_false (fun z => h4 (sign_eq.mp z))]
            refine iteF ?_
            refine ⟨_, rfl, fig, rfl, for_str (fun i σ H' => H' = H ∧ (∃ v : Option V, σ = [some (.str w), some (.str fig), v]) ∧ ∀ (j d : Nat), j < i → (tl fig)[j]? = some d → 48 ≤ d ∧ d ≤ 57) ⟨rfl, ⟨none, rfl⟩, fun j d z => absurd z (by omega)⟩ ?_ ?_⟩
            · rintro i d σ H' ed ⟨rfl, ⟨v, rfl⟩, all⟩
              refine ⟨_, rfl, d, _, rfl, rfl, _, rfl, ?_⟩
              by_cases h5 : d ∈ tl ("0123456789" : Str)
              · rw [show decide (d ∈ ("0123456789" : Str).cps.toList) = true from decide_eq_true h5]
                refine iteF ⟨rfl, ⟨_, rfl⟩, fun j d' hj e' => ?_⟩
                by_cases hji : j < i
                · exact all j d' hji e'
                · obtain rfl : j = i := by omega
                  rw [ed] at e'
                  cases e'
                  exact figs.mp h5
              · rw [show decide (d ∈ ("0123456789" : Str).cps.toList) = false from decide_eq_false h5]
                refine iteT ?_
                refine kE (shareF_no fun z => h5 (figs.mpr (z.2.2.2.2 d ?_)))
                rw [← ef]
                exact List.mem_of_getElem? ed
            · rintro σ H' ⟨rfl, ⟨v, rfl⟩, all⟩
              have dig : NumText.AllDigits (tl fig) := fun d hd => by
                obtain ⟨j, hj⟩ := List.mem_iff_getElem?.mp hd
                exact all j d (lt_of_get hj) hj
              have yes := shareF_yes (l := tl w) ⟨h1, by rw [← ef]; exact h2, by rw [← ef, ← len_tl]; omega, by rw [← ef, ec]; exact fun z => h4 (Option.some.inj z), by rw [← ef]; exact dig⟩
              rw [← ef] at yes
              exact ⟨_, rfl, fig, _, rfl, intText_digits dig h2 (by omega), by omega, kQ _ yes⟩
    · rw [show decide (V.str (cutS w none (some 2)) = V.str "1/") = false from decide_eq_false (fun z => h1 (by rw [← cut_to, str_eq.mp z, lit_1]))]
      refine iteT (iteT ?_)
      exact kE (shareF_no fun z => h1 z.1)

abbrev s_read : Stmt := topS 10
abbrev N_read : List Str := ["text", "shares", "k", "word"]
theorem sc_read : FnScope N_read ["text"] (defScope s_read) := ⟨rfl, rfl, rfl, by decide +kernel, rfl, by decide +kernel, by decide +kernel⟩
open TL
def sp_read (K : PySem.W.Frag) (e : ErrA) : Sp := fun vs H Q E => ∃ t : Str, vs = [.str t] ∧ t.length ≤ 1000000 ∧
  (goodF t = none → ∀ H', Same H H' → E (.ref e.BadText) none H') ∧ (∀ xs, goodF t = some xs → ¬ Ris xs → ∀ H', Same H H' → E (.ref e.NotRising) none H') ∧
  ∀ xs, goodF t = some xs → Ris xs → ∀ H' p, Same H H' → H p = none → H' p = some (.lst (xs.map V.int)) → Q (.ref p) H'
theorem ok_read (D : Stands K mg "read" s_read) (B : Bi mg) (Er : ErrOk K mg e)
    (h_share_of : Keeps P w K mg base 1 "share_of" ["word"] (sp_share_of K e)) : Keeps P w K mg base 2 "read" ["text"] (sp_read K e) := by
  obtain ⟨f, fd, F, mF⟩ := D
  obtain ⟨f_share_of, fd_share_of, G_share_of, b_share_of, m_share_of, k_share_of⟩ := h_share_of
  have h_NotRising := Er.NotRising
  refine ⟨f, fd, ?_, F.binds (ps := ["text"]) (fun _ _ _ _ _ _ us hl => match us, hl with | [_], _ => rfl), mF, F.kp⟩
  refine F.okX sc_read (fun vs H Q E h => ?_) (fun cdv A outer s H vs Q E hr h => ?_)
  · obtain ⟨t, rfl, hl, kB, kR, q⟩ := h
    rfl
  · obtain ⟨t, rfl, hl, kB, kR, q⟩ := h
    refine ⟨_, (pss_cons (ps_if (pt_cmpR op_eq (pv 0) pe_str (nomark _)) (pss_one (ps_ret (pe_lst pa_nil))) pss_nil)
      (pss_cons (ps_setLcX (i := 1) (own := [("word", 3)]) (g := gName 3) (Ew := E) (by rfl) sc_read.nd rfl rfl (sw_true rfl rfl rfl (by decide +kernel)) (pi_list (pe_split (pv 0) pe_str)) (blkOk_by (N := N_read) (sc := defScope s_read) (by decide +kernel)) rfl rfl (takes_of rfl rfl rfl rfl) (fun _ _ _ _ _ => pg_name (i := 3) sc_read.nd rfl (Or.inl rfl)) (fun _ _ _ _ _ => (pe_call G_share_of (hr.mono (by decide)) (by rfl) m_share_of k_share_of b_share_of .nil (airB_in _ _) (pa_cons (pv 3) pa_nil))))
      (pss_cons (ps_for (passes_of rfl) rfl (pi_range2 (by rfl) B.range (pa_cons pe_int (pa_cons (pe_callB call_len_seq (by rfl) B.len (by decide +kernel) (pa_cons (pv 1) pa_nil)) pa_nil))) (pg_name (i := 2) sc_read.nd rfl (Or.inl rfl)) (pss_one (ps_if (pt_cmpR op_ge (pe_ix ix_list (pv 1) (pe_op op_sub (pv 2) pe_int) (fun _ _ => rfl)) (pe_ix ix_list (pv 1) (pv 2) (fun _ _ => rfl)) (nomark _)) (pss_one (ps_raise rfl (takes_of rfl rfl rfl rfl) (pmk_own PySem.F.excBase_ValueError h_NotRising.x h_NotRising.g h_NotRising.k (raises_own h_NotRising.b h_NotRising.t) rfl))) pss_nil)))
      (pss_one (ps_ret (pv 1)))))), ?_⟩
    by_cases t0 : tl t = [48]
    · refine ⟨_, rfl, rfl, _, rfl, ?_⟩
      rw [show decide (V.str t = V.str "0") = true from decide_eq_true (str_eq.mpr (by rw [t0, lit_0]))]
      refine iteT ?_
      exact ⟨Nat.zero_le _, fun p np => q [] (goodF_0 t0) List.Pairwise.nil _ p (same_new np) np upd_same⟩
    · refine ⟨_, rfl, rfl, _, rfl, ?_⟩
      rw [show decide (V.str t = V.str "0") = false from decide_eq_false (fun z => t0 (by rw [str_eq.mp z, lit_0]))]
      refine iteF ?_
      refine ⟨_, rfl, ⟨_, rfl⟩, t, _, rfl, rfl, by decide +kernel, szl (by omega), fun W nW => ?_⟩
      have s1 := same_new (o := .lst ((Txt.split t gap).map V.str)) nW
      have eW : (upd H W (.lst ((Txt.split t gap).map V.str))) W = some (.lst ((Txt.split t gap).map V.str)) := upd_same
      refine ⟨W, rfl, ⟨_, SqL.of eW⟩, fun D nD => ?_⟩
      have sl := PyProof.Rows.split_le t gap
      refine lc_list (K := K) (a := W) (xs := (Txt.split t gap).map V.str) (fun i H' => Same (upd H W (.lst ((Txt.split t gap).map V.str))) H' ∧ ∃ ms : List Int, ms.length = i ∧ (∀ (j : Nat) (w : Str), j < i → (Txt.split t gap)[j]? = some w → ∃ m : Nat, shareF (tl w) = some m ∧ ms[j]? = some (m : Int)) ∧ H' D = some (.lst (ms.map V.int))) ⟨same_new nD, [], rfl, fun j w z => absurd z (by omega), upd_same⟩ (fun i H' _ h => SqL.of (h.1 _ _ eW)) ?_ ?_
      · rintro i y H1 hy ⟨s2, ms, ml, each, e2⟩
        obtain ⟨w, ex, rfl⟩ := of_get_map hy
        have hw := List.mem_of_getElem? ex
        have hi := lt_of_get ex
        have wl := split_short t w hw
        refine ⟨rfl, _, rfl, w, rfl, by omega, fun no => kB (goodF_bad t0 hw no) H1 (s1.trans s2), fun m es => ?_⟩
        refine ⟨_, e2, ?_, same_mut s2 nD, ms ++ [(m : Int)], by rw [List.length_append, ml] <;> rfl, fun j w' hj e' => ?_, ?_⟩
        · rw [List.length_map, ml]
          exact szl_lt (by omega)
        · by_cases hji : j < i
          · obtain ⟨m', a, b⟩ := each j w' hji e'
            exact ⟨m', a, by rw [List.getElem?_append_left (by omega)]; exact b⟩
          · obtain rfl : j = i := by omega
            rw [ex] at e'
            cases e'
            exact ⟨m, es, by rw [← ml, List.getElem?_concat_length]⟩
        · rw [upd_same, List.map_append] <;> rfl
      · rintro H1 ⟨s2, xs, xl, each, e2⟩
        rw [List.length_map] at xl each
        have good := goodF_yes t0 (ms := xs) (fun j w ew => each j w (lt_of_get ew) ew) xl
        have s12 := s1.trans s2
        have nD0 := s1.free nD
        have kR := kR xs good
        have q := q xs good
        refine ⟨_, rfl, D, _, rfl, .inl (SqL.of e2), 1, _, rfl, ⟨by decide, by decide, by omega, by rw [List.length_map]; omega⟩, ?_⟩
        have en : (((xs.map V.int).length : Int) - 1).toNat = xs.length - 1 := by
          rw [List.length_map]
          omega
        rw [en]
        refine for_range (lo := 1) (n := _) (fun i σ H' => (H' = H1 ∧ ∃ v : Option V, σ = [some (.str t), some (.ref D), v, none]) ∧ ∀ (j : Nat) (x y : Int), j < i → xs[j]? = some x → xs[j + 1]? = some y → x < y) ⟨⟨rfl, none, rfl⟩, fun j x y z => absurd z (by omega)⟩ ?_ ?_
        · rintro i σ H' hi ⟨⟨rfl, v, rfl⟩, rise⟩
          have i1 : i < xs.length := by omega
          have i2 : i + 1 < xs.length := by omega
          have a1 := List.getElem?_eq_getElem i1
          have a2 := List.getElem?_eq_getElem i2
          have g1 : (xs.map V.int)[i]? = some (.int xs[i]) := get_map a1
          have g2 : (xs.map V.int)[i + 1]? = some (.int xs[i + 1]) := get_map a2
          refine ⟨_, rfl, _, rfl, _, _, rfl, rfl, D, _, _, _, rfl, rfl, SqL.of e2, at_of (j := i) (by omega) g1, _, rfl, _, rfl, D, _, _, _, rfl, rfl, SqL.of e2, at_of (j := i + 1) (by omega) g2, _, _, rfl, rfl, _, rfl, ite2 (fun z => ?_) (fun z => ?_)⟩
          · have z := of_decide_eq_true z
            refine kR (fun r => ?_) H' s12
            have := ris_at r a1 a2
            omega
          · have z : ¬ xs[i + 1] ≤ xs[i] := fun x => z (decide_eq_true x)
            refine ⟨⟨rfl, _, rfl⟩, fun j x y hj ex ey => ?_⟩
            by_cases hji : j < i
            · exact rise j x y hji ex ey
            · obtain rfl : j = i := by omega
              rw [a1] at ex
              rw [a2] at ey
              cases ex
              cases ey
              omega
        · rintro σ H' ⟨⟨rfl, v, rfl⟩, rise⟩
          refine ⟨_, rfl, q (ris_adj fun j x y ex ey => rise j x y ?_ ex ey) H' D s12 nD0 e2⟩
          have := lt_of_get ey
          omega

abbrev s_law_cell_at : Stmt := topS 12
abbrev N_law_cell_at : List Str := ["script", "k"]
theorem sc_law_cell_at : FnScope N_law_cell_at ["script", "k"] (defScope s_law_cell_at) := ⟨rfl, rfl, rfl, by decide +kernel, rfl, by decide +kernel, by decide +kernel⟩
/-- script[k], nought beyond the end -/
def cell (ns : List Int) (k : Nat) : Int := ns.getD k 0
theorem cell_arg {a : Addr} {x : Int} {k : Nat} (h : x = k) : [V.ref a, V.int x] = [V.ref a, V.int (k : Int)] := by rw [h]
def sp_law_cell_at (K : PySem.W.Frag) (_ : ErrA) : Sp := fun vs H Q _ => ∃ (a : Addr) (ns : List Int) (k : Nat), vs = [.ref a, .int k] ∧ SqL K H a (ns.map V.int) ∧ ns.length ≤ 63 ∧ Q (.int (cell ns k)) H
theorem ok_law_cell_at (D : Stands K mg "_law_cell_at" s_law_cell_at) (B : Bi mg) (Er : ErrOk K mg e) : Keeps P w K mg base 1 "_law_cell_at" ["script", "k"] (sp_law_cell_at K e) := by
  obtain ⟨f, fd, F, mF⟩ := D
  refine ⟨f, fd, ?_, F.binds (ps := ["script", "k"]) (fun _ _ _ _ _ _ us hl => match us, hl with | [_, _], _ => rfl), mF, F.kp⟩
  refine toX (F.ok sc_law_cell_at (fun vs H Q E h => ?_) (fun cdv A outer s H vs Q E hr h => ?_))
  · obtain ⟨a, ns, k, rfl, hS, hk, q⟩ := h
    rfl
  · obtain ⟨a, ns, k, rfl, hS, hk, q⟩ := h
    refine ⟨_, (pss_cons (ps_if (pt_cmpR op_lt (pv 1) (pe_callB call_len_seq (by rfl) B.len (by decide +kernel) (pa_cons (pv 0) pa_nil)) (nomark _)) (pss_one (ps_ret (pe_ix ix_list (pv 0) (pv 1) (fun _ _ => rfl)))) pss_nil)
      (pss_one (ps_ret pe_int))), ?_⟩
    refine ⟨_, rfl, _, rfl, a, _, rfl, .inl hS, _, _, rfl, rfl, _, rfl, ite2 (fun c => ?_) (fun c => ?_)⟩
    · have c := of_decide_eq_true c
      rw [List.length_map] at c
      have hl : k < ns.length := by omega
      have g : ns[k]? = some (cell ns k) := by
        unfold cell
        rw [List.getD_eq_getElem?_getD, List.getElem?_eq_getElem hl] <;> rfl
      exact ⟨_, rfl, _, rfl, a, _, _, _, rfl, rfl, hS, atI_nat (get_map g), q⟩
    · have z : cell ns k = 0 := by
        unfold cell
        rw [List.getD_eq_getElem?_getD, List.getElem?_eq_none] <;> first | rfl | skip
        have c : ¬ ((k : Int) < ((ns.map V.int).length : Int)) := fun z => c (decide_eq_true z)
        rw [List.length_map] at c
        omega
      rw [z] at q
      exact q

abbrev s_law_whole : Stmt := topS 13
abbrev N_law_whole : List Str := ["found"]
theorem sc_law_whole : FnScope N_law_whole ["found"] (defScope s_law_whole) := ⟨rfl, rfl, rfl, by decide +kernel, rfl, by decide +kernel, by decide +kernel⟩
def sp_law_whole (K : PySem.W.Frag) (_ : ErrA) : Sp := fun vs H Q _ => ∃ i : Int, vs = [.int i] ∧ Q (.bl true) H
theorem ok_law_whole (D : Stands K mg "_law_whole" s_law_whole) (B : Bi mg) (Er : ErrOk K mg e) : Keeps P w K mg base 1 "_law_whole" ["found"] (sp_law_whole K e) := by
  obtain ⟨f, fd, F, mF⟩ := D
  refine ⟨f, fd, ?_, F.binds (ps := ["found"]) (fun _ _ _ _ _ _ us hl => match us, hl with | [_], _ => rfl), mF, F.kp⟩
  refine toX (F.ok sc_law_whole (fun vs H Q E h => ?_) (fun cdv A outer s H vs Q E hr h => ?_))
  · obtain ⟨i, rfl, q⟩ := h
    rfl
  · obtain ⟨i, rfl, q⟩ := h
    refine ⟨_, (pss_one (ps_ret (pe_and (pe_callB call_isi (by rfl) B.isinstance (by decide +kernel) (pa_cons (pv 0) (pa_cons (pe_bltn (v := .ty "int") (by rfl) B.int (by decide +kernel) rfl) pa_nil))) (pe_one (pe_not (pe_callB call_isi (by rfl) B.isinstance (by decide +kernel) (pa_cons (pv 0) (pa_cons (pe_bltn (v := .ty "bool") (by rfl) B.bool (by decide +kernel) rfl) pa_nil)))))))), ?_⟩
    refine ⟨_, rfl, _, _, _, _, true, rfl, .ty "int", .base (.int i), kit_ty (by decide +kernel), true, rfl, iteT ?_⟩
    exact ⟨_, rfl, _, _, _, _, false, rfl, .ty "bool", .base (.int i), kit_ty (by decide +kernel), false, rfl, q⟩

abbrev s_law_list : Stmt := topS 18
abbrev N_law_list : List Str := ["found", "due", "k"]
theorem sc_law_list : FnScope N_law_list ["found", "due"] (defScope s_law_list) := ⟨rfl, rfl, rfl, by decide +kernel, rfl, by decide +kernel, by decide +kernel⟩
/-- two lists of the same ints -/
def sp_law_list (K : PySem.W.Frag) (_ : ErrA) : Sp := fun vs H Q _ => ∃ (a b : Addr) (xs : List Int), vs = [.ref a, .ref b] ∧ SqL K H a (xs.map V.int) ∧ SqL K H b (xs.map V.int) ∧ xs.length ≤ 1000000 ∧ Q (.bl true) H
theorem ok_law_list (D : Stands K mg "_law_list" s_law_list) (B : Bi mg) (Er : ErrOk K mg e)
    (h_law_whole : Keeps P w K mg base 1 "_law_whole" ["found"] (sp_law_whole K e)) : Keeps P w K mg base 2 "_law_list" ["found", "due"] (sp_law_list K e) := by
  obtain ⟨f, fd, F, mF⟩ := D
  obtain ⟨f_law_whole, fd_law_whole, G_law_whole, b_law_whole, m_law_whole, k_law_whole⟩ := h_law_whole
  refine ⟨f, fd, ?_, F.binds (ps := ["found", "due"]) (fun _ _ _ _ _ _ us hl => match us, hl with | [_, _], _ => rfl), mF, F.kp⟩
  refine toX (F.ok sc_law_list (fun vs H Q E h => ?_) (fun cdv A outer s H vs Q E hr h => ?_))
  · obtain ⟨a, b, xs, rfl, hA, hB, hl, q⟩ := h
    rfl
  · obtain ⟨a, b, xs, rfl, hA, hB, hl, q⟩ := h
    refine ⟨_, (pss_cons (ps_if (PW.pt (pw_or (pt_not (pt_val (pe_callB call_isi (by rfl) B.isinstance (by decide +kernel) (pa_cons (pv 0) (pa_cons (pe_bltn (v := .ty "list") (by rfl) B.list (by decide +kernel) rfl) pa_nil))))) (pw_or1 (pt_cmpR op_ne (pe_callB call_len_seq (by rfl) B.len (by decide +kernel) (pa_cons (pv 0) pa_nil)) (pe_callB call_len_seq (by rfl) B.len (by decide +kernel) (pa_cons (pv 1) pa_nil)) (nomark _))))) (pss_one (ps_ret pe_bl)) pss_nil)
      (pss_cons (ps_for PassesOwn.never rfl (pi_range1 (by rfl) B.range (pa_cons (pe_callB call_len_seq (by rfl) B.len (by decide +kernel) (pa_cons (pv 1) pa_nil)) pa_nil)) (pg_name (i := 2) sc_law_list.nd rfl (Or.inl rfl)) (pss_one (ps_if (PW.pt (pw_or (pt_not (pt_val (pe_call G_law_whole (hr.mono (by decide)) (by rfl) m_law_whole k_law_whole b_law_whole .nil passL (pa_cons (pe_ix ix_list (pv 0) (pv 2) (fun _ _ => rfl)) pa_nil)))) (pw_or1 (pt_cmpR op_ne (pe_ix ix_list (pv 0) (pv 2) (fun _ _ => rfl)) (pe_ix ix_list (pv 1) (pv 2) (fun _ _ => rfl)) (nomark _))))) (pss_one (ps_ret pe_bl)) pss_nil)))
      (pss_one (ps_ret pe_bl)))), ?_⟩
    refine ⟨_, rfl, _, _, _, _, true, rfl, .ty "list", ty_list hA, kit_ty (by decide +kernel), true, rfl, ?_⟩
    show if (!true) = true then _ else _
    refine iteF ?_
    refine ⟨_, rfl, a, _, rfl, .inl hA, _, rfl, b, _, rfl, .inl hB, rfl, _, rfl, ?_⟩
    rw [decide_eq_true rfl]
    refine iteF ?_
    refine ⟨_, rfl, b, _, rfl, .inl hB, _, rfl, by omega, by rw [List.length_map]; omega, ?_⟩
    refine for_range (lo := 0) (n := _) (fun i σ H' => ∃ v : Option V, σ = [some (.ref a), some (.ref b), v] ∧ H' = H) ⟨none, rfl, rfl⟩ ?_ ?_
    · rintro i σ H' hi ⟨v, rfl, rfl⟩
      have hi : i < xs.length := by
        rw [List.length_map] at hi
        omega
      have g : (xs.map V.int)[i]? = some (.int xs[i]) := get_map (List.getElem?_eq_getElem hi)
      have e0 : (0 : Int) + (i : Int) = (i : Int) := by omega
      refine ⟨_, rfl, _, rfl, a, _, _, _, rfl, rfl, hA, by rw [e0]; exact atI_nat g, _, rfl, true, rfl, ?_⟩
      show if (!true) = true then _ else _
      refine iteF ?_
      refine ⟨_, rfl, _, rfl, a, _, _, _, rfl, rfl, hA, by rw [e0]; exact atI_nat g, _, rfl, _, rfl, b, _, _, _, rfl, rfl, hB, by rw [e0]; exact atI_nat g, rfl, _, rfl, ?_⟩
      rw [decide_eq_true rfl]
      exact iteF ⟨_, rfl, rfl⟩
    · rintro σ H' ⟨v, rfl, rfl⟩
      exact q

abbrev s_law_kind : Stmt := topS 19
abbrev N_law_kind : List Str := ["e", "kinds"]
theorem sc_law_kind : FnScope N_law_kind ["e"] (defScope s_law_kind) := ⟨rfl, rfl, rfl, by decide +kernel, rfl, by decide +kernel, by decide +kernel⟩
def sp_law_kind (K : PySem.W.Frag) (e : ErrA) : SpE := fun a cls d vs H Q _ => vs = [.ref a] ∧ d = none ∧ ∃ (D : Addr) (b0 b1 b2 b3 b4 b5 : Bool), KindOf K e D b0 b1 b2 b3 b4 b5 ∧ cls = .ref D ∧
  ∀ H' l, Same H H' → H l = none → H' l = some (.lst [.bl b0, .bl b1, .bl b2, .bl b3, .bl b4, .bl b5]) → Q (.ref l) H'
theorem ok_law_kind (D : Stands K mg "_law_kind" s_law_kind) (B : Bi mg) (Er : ErrOk K mg e) : KeepsE P w K mg base 1 "_law_kind" ["e"] (sp_law_kind K e) := by
  obtain ⟨f, fd, F, mF⟩ := D
  have h_NoFraction := Er.NoFraction
  have h_NotBelow := Er.NotBelow
  have h_TooGreat := Er.TooGreat
  have h_BadText := Er.BadText
  have h_NotRising := Er.NotRising
  refine ⟨f, fd, fnE_of F sc_law_kind (fun a cls d vs H Q E h => ?_) (fun cdv A outer s H vs Q E a oe cls d hz hf h => ?_), F.binds (ps := ["e"]) (fun _ _ _ _ _ _ us hl => match us, hl with | [_], _ => rfl), mF, F.kp⟩
  · obtain ⟨rfl, rfl, D, b0, b1, b2, b3, b4, b5, kd, rfl, q⟩ := h
    rfl
  · obtain ⟨rfl, rfl, D, b0, b1, b2, b3, b4, b5, kd, rfl, q⟩ := h
    refine ⟨_, (pss_cons (ps_set (i := 1) sc_law_kind.nd rfl (Or.inl rfl) (pe_lst (pa_cons (pe_callB (call_isP List.mem_cons_self kd.exc hz hf) (by rfl) B.isinstance (by decide +kernel) (pa_cons (pv 0) (pa_cons (pe_glob (v := .ref e.NoFraction) (by rfl) h_NoFraction.g rfl) pa_nil))) (pa_cons (pe_callB (call_isP List.mem_cons_self kd.exc hz hf) (by rfl) B.isinstance (by decide +kernel) (pa_cons (pv 0) (pa_cons (pe_glob (v := .ref e.NotBelow) (by rfl) h_NotBelow.g rfl) pa_nil))) (pa_cons (pe_callB (call_isP List.mem_cons_self kd.exc hz hf) (by rfl) B.isinstance (by decide +kernel) (pa_cons (pv 0) (pa_cons (pe_glob (v := .ref e.TooGreat) (by rfl) h_TooGreat.g rfl) pa_nil))) (pa_cons (pe_callB (call_isP List.mem_cons_self kd.exc hz hf) (by rfl) B.isinstance (by decide +kernel) (pa_cons (pv 0) (pa_cons (pe_glob (v := .ref e.BadText) (by rfl) h_BadText.g rfl) pa_nil))) pa_nil))))))
      (pss_one (ps_ret (pe_op op_cat (pv 1) (pe_lst (pa_cons (pe_callB (call_isP List.mem_cons_self kd.exc hz hf) (by rfl) B.isinstance (by decide +kernel) (pa_cons (pv 0) (pa_cons (pe_glob (v := .ref e.NotRising) (by rfl) h_NotRising.g rfl) pa_nil))) (pa_cons (pe_callB (call_isP List.mem_cons_self kd.exc hz hf) (by rfl) B.isinstance (by decide +kernel) (pa_cons (pv 0) (pa_cons (pe_bltn (v := .ty "ValueError") (by rfl) B.ValueError (by decide +kernel) rfl) pa_nil))) pa_nil))))))), ?_⟩
    refine ⟨_, rfl, _, _, b0, rfl, fun u h => h, kd.k0, _, rfl, _, _, b1, rfl, fun u h => h, kd.k1, _, rfl, _, _, b2, rfl, fun u h => h, kd.k2, _, rfl, _, _, b3, rfl, fun u h => h, kd.k3, by show 4 ≤ sizeLine; decide, fun p np => ?_⟩
    refine ⟨_, rfl, _, rfl, _, _, b4, rfl, fun u h => h, kd.k4, _, rfl, _, _, b5, rfl, fun u h => h, kd.k5, by show 2 ≤ sizeLine; decide, fun r nr => ?_⟩
    have s1 := same_new (o := .lst [.bl b0, .bl b1, .bl b2, .bl b3]) np
    have s2 := same_new (o := .lst [.bl b4, .bl b5]) nr
    refine ⟨p, r, _, _, rfl, rfl, s2 _ _ upd_same, upd_same, by show 6 ≤ sizeLine; decide, fun l nl => ?_⟩
    exact q _ l ((s1.trans s2).trans (same_new nl)) ((s1.trans s2).free nl) upd_same

abbrev s_law_odd : Stmt := topS 20
abbrev N_law_odd : List Str := ["cell", "some"]
theorem sc_law_odd : FnScope N_law_odd ["cell"] (defScope s_law_odd) := ⟨rfl, rfl, rfl, by decide +kernel, rfl, by decide +kernel, by decide +kernel⟩
def oddS : List Str := ["", "0", "1", "1/", "1/0", "1/01", "2/3", "1/-2", "1/+2", "1/1_0", "1/ 2", " 1/2", "1/2 ", "1/x", "1/2\n", "1//2", "1/2/3", ("1/" : Str) ++ Txt.mul "9" 400, ("1/" : Str) ++ Txt.mul "9" 401, "01/2", "1 /2", "+1/2"]
theorem oddS_ok : ∀ w ∈ oddS, w.length ≤ 403 ∧ plusC (TL.tl w) ≤ 1 := by decide +kernel
theorem nines_ok : MulOk "9" 400 ∧ MulOk "9" 401 := ⟨by unfold MulOk; decide +kernel, by unfold MulOk; decide +kernel⟩
theorem nines_len : ("1/" : Str).length + (Txt.mul "9" 400).length ≤ 403 ∧ ("1/" : Str).length + (Txt.mul "9" 401).length ≤ 403 := by decide +kernel
def sp_law_odd (K : PySem.W.Frag) (_ : ErrA) : Sp := fun vs H Q _ => ∃ c : Int, vs = [.int c] ∧ ∀ (w : Str) H', w.length ≤ 403 → plusC (TL.tl w) ≤ 1 → Same H H' → Q (.str w) H'
theorem ok_law_odd (D : Stands K mg "_law_odd" s_law_odd) (B : Bi mg) (Er : ErrOk K mg e) : Keeps P w K mg base 1 "_law_odd" ["cell"] (sp_law_odd K e) := by
  obtain ⟨f, fd, F, mF⟩ := D
  refine ⟨f, fd, ?_, F.binds (ps := ["cell"]) (fun _ _ _ _ _ _ us hl => match us, hl with | [_], _ => rfl), mF, F.kp⟩
  refine toX (F.ok sc_law_odd (fun vs H Q E h => ?_) (fun cdv A outer s H vs Q E hr h => ?_))
  · obtain ⟨c, rfl, q⟩ := h
    rfl
  · obtain ⟨c, rfl, q⟩ := h
    refine ⟨_, (pss_cons (ps_set (i := 1) sc_law_odd.nd rfl (Or.inl rfl) (pe_lst (pa_cons pe_str (pa_cons pe_str (pa_cons pe_str (pa_cons pe_str (pa_cons pe_str (pa_cons pe_str (pa_cons pe_str (pa_cons pe_str (pa_cons pe_str (pa_cons pe_str (pa_cons pe_str (pa_cons pe_str (pa_cons pe_str (pa_cons pe_str (pa_cons pe_str pa_nil)))))))))))))))))
      (pss_cons (ps_set (i := 1) sc_law_odd.nd rfl (Or.inl rfl) (pe_op op_cat (pv 1) (pe_lst (pa_cons pe_str (pa_cons pe_str (pa_cons (pe_op op_add_str pe_str (pe_op op_rep_str pe_str pe_int)) (pa_cons (pe_op op_add_str pe_str (pe_op op_rep_str pe_str pe_int)) (pa_cons pe_str (pa_cons pe_str (pa_cons pe_str pa_nil))))))))))
      (pss_one (ps_ret (pe_ix ix_list (pv 1) (pe_op op_mod (pv 0) pe_int) (fun _ _ => rfl)))))), ?_⟩
    obtain ⟨i, hi, ei⟩ : ∃ i : Nat, i < oddS.length ∧ c % 22 = (i : Int) := ⟨(c % 22).toNat, by show _ < 22; omega, by omega⟩
    refine ⟨by show 15 ≤ sizeLine; decide, fun p np => ?_⟩
    refine ⟨_, rfl, _, _, rfl, rfl, nines_ok.1, _, _, rfl, rfl, Nat.le_trans nines_len.1 (szl (by decide)), _, _, rfl, rfl, nines_ok.2, _, _, rfl, rfl, Nat.le_trans nines_len.2 (szl (by decide)), by show 7 ≤ sizeLine; decide, fun r nr => ?_⟩
    have s1 := same_new np (o := .lst ((oddS.take 15).map V.str))
    have s2 := same_new nr (o := .lst ((oddS.drop 15).map V.str))
    refine ⟨p, r, _, _, rfl, rfl, s2 _ _ upd_same, upd_same, by show 22 ≤ sizeLine; decide, fun u nu => ?_⟩
    have s3 := same_new nu (o := .lst (oddS.map V.str))
    have g := List.getElem?_eq_getElem hi
    obtain ⟨b1, b2⟩ := oddS_ok _ (List.mem_of_getElem? g)
    refine ⟨_, rfl, _, rfl, _, _, rfl, rfl, by show (0 : Int) < 22; decide, u, oddS.map V.str, _, _, rfl, rfl, SqL.of upd_same, at_of (j := i) ei (get_map g), ?_⟩
    exact q _ _ b1 b2 ((s1.trans s2).trans s3)

abbrev s_law_turned : Stmt := topS 21
abbrev N_law_turned : List Str := ["words", "cell", "at", "odd", "mode"]
theorem sc_law_turned : FnScope N_law_turned ["words", "cell"] (defScope s_law_turned) := ⟨rfl, rfl, rfl, by decide +kernel, rfl, by decide +kernel, by decide +kernel⟩
open TL
structure WT (ws : List Str) : Prop where
  len : ws.length ≤ 6
  each : ∀ w ∈ ws, w.length ≤ 403 ∧ plusC (tl w) ≤ 1
def TOk (t : Str) : Prop := t.length ≤ 10000 ∧ plusC (tl t) ≤ 60
theorem meas_join (f : List Nat → Nat) (h0 : f [] = 0) (ha : ∀ a b, f (a ++ b) = f a + f b) (S : List Nat) (c : Nat) : ∀ ps : List (List Nat), (∀ p ∈ ps, f p ≤ c) → f (joinL S ps) ≤ ps.length * (c + f S)
  | [], _ => by
    show f [] ≤ _
    omega
  | [p], h => by
    have := h p List.mem_cons_self
    show f p ≤ 1 * _
    omega
  | p :: r :: ps, h => by
    have a := h p List.mem_cons_self
    have b := meas_join f h0 ha S c (r :: ps) fun x hx => h x (List.mem_cons_of_mem _ hx)
    show f (p ++ (S ++ joinL S (r :: ps))) ≤ _
    rw [ha, ha]
    simp only [List.length_cons] at b ⊢
    rw [Nat.add_mul _ 1 (c + f S)]
    omega
theorem plus_add (a b : List Nat) : plusC (a ++ b) = plusC a + plusC b := List.count_append
theorem sum_le (c : Nat) : ∀ l : List Nat, (∀ x ∈ l, x ≤ c) → l.sum ≤ l.length * c
  | [], _ => Nat.zero_le _
  | x :: l, h => by
    have a := h x List.mem_cons_self
    have b := sum_le c l fun y hy => h y (List.mem_cons_of_mem _ hy)
    rw [List.sum_cons, List.length_cons, Nat.add_mul]
    omega
structure JOk (t : Str) : Prop where
  len : t.length ≤ 4000
  plus : plusC (tl t) ≤ 20
theorem join_ok {ys : List Str} {a : Str} (hn : ys.length ≤ 7) (h : ∀ w ∈ ys, w.length ≤ 403 ∧ plusC (tl w) ≤ 1) (z : a.length ≤ 3 ∧ plusC (tl a) ≤ 1) : JOk (Txt.join a ys) ∧ (ys.map fun x => x.length).sum + ys.length * a.length ≤ 16777216 := by
  have m1 : ys.length * (403 + (tl a).length) ≤ 7 * 406 := Nat.mul_le_mul hn (by rw [← len_tl]; omega)
  have m2 : ys.length * (1 + plusC (tl a)) ≤ 7 * 2 := Nat.mul_le_mul hn (by omega)
  have m3 : ys.length * 403 ≤ 7 * 403 := Nat.mul_le_mul hn (Nat.le_refl _)
  have m4 : ys.length * a.length ≤ 7 * 3 := Nat.mul_le_mul hn z.1
  have s := sum_le 403 (ys.map fun x => x.length) fun x hx => by
    obtain ⟨w, hw, rfl⟩ := List.mem_map.mp hx
    exact (h w hw).1
  rw [List.length_map] at s
  have f1 := meas_join List.length rfl (fun a b => List.length_append) (tl a) 403 (ys.map tl) fun x hx => by
    obtain ⟨w, hw, rfl⟩ := List.mem_map.mp hx
    rw [← len_tl]
    exact (h w hw).1
  have f2 := meas_join plusC rfl plus_add (tl a) 1 (ys.map tl) fun x hx => by
    obtain ⟨w, hw, rfl⟩ := List.mem_map.mp hx
    exact (h w hw).2
  rw [List.length_map, ← join_tl] at f1 f2
  rw [← len_tl] at f1
  exact ⟨⟨by omega, by omega⟩, by omega⟩
theorem JOk.t {t : Str} (h : JOk t) : TOk t := ⟨by have := h.len; omega, by have := h.plus; omega⟩
theorem cutV_str (ws : List Str) (lo hi : Option Int) : ∃ ys : List Str, cutV (ws.map V.str) lo hi = ys.map V.str ∧ ys.length ≤ ws.length ∧ ∀ w ∈ ys, w ∈ ws := by
  refine ⟨(ws.drop (HT.sIx (ws.map V.str).length 0 lo)).take (HT.sIx (ws.map V.str).length (ws.map V.str).length hi - HT.sIx (ws.map V.str).length 0 lo), ?_, ?_, fun w hw => List.mem_of_mem_drop (List.mem_of_mem_take hw)⟩
  · unfold cutV
    rw [List.map_take, List.map_drop]
  · rw [List.length_take, List.length_drop]
    omega
theorem gap_ok : gap.length ≤ 3 ∧ plusC (tl gap) ≤ 1 := by decide +kernel
def sepS : List Str := ["+", " ", " + "]
theorem sepS_ok : ∀ w ∈ sepS, w.length ≤ 3 ∧ plusC (tl w) ≤ 1 := by decide +kernel
def flatS : List Str := ["", "0 ", " 0", "00", "1/2 +", "+ 1/2", "1/2+1/3", "1/2  + 1/3"]
theorem flatS_ok : ∀ w ∈ flatS, w.length ≤ 4000 ∧ plusC (tl w) ≤ 20 := by decide +kernel
theorem mix_ok {ws y1 y2 : List Str} {odd : Str} (wt : WT ws) (ho : odd.length ≤ 403 ∧ plusC (tl odd) ≤ 1) (n : y1.length + y2.length ≤ 6) (h1 : ∀ w ∈ y1, w ∈ ws) (h2 : ∀ w ∈ y2, w ∈ ws) : (y1 ++ [odd] ++ y2).length ≤ 7 ∧ ∀ w ∈ y1 ++ [odd] ++ y2, w.length ≤ 403 ∧ plusC (tl w) ≤ 1 := by
  refine ⟨?_, fun w hw => ?_⟩
  · rw [List.length_append, List.length_append, List.length_singleton]
    omega
  · rcases List.mem_append.mp hw with hw | hw
    · rcases List.mem_append.mp hw with hw | hw
      · exact wt.each w (h1 w hw)
      · rw [List.mem_singleton.mp hw]
        exact ho
    · exact wt.each w (h2 w hw)
/-- cut at m, and from n, no more than all of it -/
theorem cut_two (ws : List Str) {m n : Int} (h0 : 0 ≤ m) (h : m ≤ n) : ∃ y1 y2 : List Str, cutV (ws.map V.str) none (some m) = y1.map V.str ∧ cutV (ws.map V.str) (some n) none = y2.map V.str ∧ y1.length + y2.length ≤ ws.length ∧ (∀ w ∈ y1, w ∈ ws) ∧ ∀ w ∈ y2, w ∈ ws := by
  obtain ⟨i, rfl⟩ := Int.eq_ofNat_of_zero_le h0
  obtain ⟨j, rfl⟩ := Int.eq_ofNat_of_zero_le (Int.le_trans h0 h)
  have e1 : HT.sIx (ws.map V.str).length (ws.map V.str).length (some ((i : Nat) : Int)) = min i (ws.map V.str).length := HT.sIx_nat _ _ i
  have e2 : HT.sIx (ws.map V.str).length 0 (some ((j : Nat) : Int)) = min j (ws.map V.str).length := HT.sIx_nat _ _ j
  refine ⟨ws.take (min i ws.length), ws.drop (min j ws.length), ?_, ?_, ?_, fun w hw => List.mem_of_mem_take hw, fun w hw => List.mem_of_mem_drop hw⟩
  · show List.take (HT.sIx (ws.map V.str).length (ws.map V.str).length (some ((i : Nat) : Int)) - 0) (List.drop 0 (ws.map V.str)) = _
    rw [e1, List.drop_zero, Nat.sub_zero, List.length_map, List.map_take]
  · show List.take ((ws.map V.str).length - HT.sIx (ws.map V.str).length 0 (some ((j : Nat) : Int))) (List.drop (HT.sIx (ws.map V.str).length 0 (some ((j : Nat) : Int))) (ws.map V.str)) = _
    rw [e2, List.length_map, List.map_drop, List.take_of_length_le]
    rw [List.length_drop, List.length_map]
    exact Nat.le_refl _
  · rw [List.length_take, List.length_drop]
    omega
def sp_law_turned (K : PySem.W.Frag) (_ : ErrA) : Sp := fun vs H Q _ => ∃ (a : Addr) (c : Int) (ws : List Str), vs = [.ref a, .int c] ∧ SqL K H a (ws.map V.str) ∧ WT ws ∧ ∀ (t : Str) H', TOk t → Same H H' → Q (.str t) H'
theorem ok_law_turned (D : Stands K mg "_law_turned" s_law_turned) (B : Bi mg) (Er : ErrOk K mg e)
    (h_law_odd : Keeps P w K mg base 1 "_law_odd" ["cell"] (sp_law_odd K e)) : Keeps P w K mg base 2 "_law_turned" ["words", "cell"] (sp_law_turned K e) := by
  obtain ⟨f, fd, F, mF⟩ := D
  obtain ⟨f_law_odd, fd_law_odd, G_law_odd, b_law_odd, m_law_odd, k_law_odd⟩ := h_law_odd
  refine ⟨f, fd, ?_, F.binds (ps := ["words", "cell"]) (fun _ _ _ _ _ _ us hl => match us, hl with | [_, _], _ => rfl), mF, F.kp⟩
  refine toX (F.ok sc_law_turned (fun vs H Q E h => ?_) (fun cdv A outer s H vs Q E hr h => ?_))
  · obtain ⟨a, c, ws, rfl, hA, wt, q⟩ := h
    rfl
  · obtain ⟨a, c, ws, rfl, hA, wt, q⟩ := h
    refine ⟨_, (pss_cons (ps_set (i := 2) sc_law_turned.nd rfl (Or.inl rfl) (pe_op op_mod (pv 1) (pe_op op_add (pe_callB call_len_seq (by rfl) B.len (by decide +kernel) (pa_cons (pv 0) pa_nil)) pe_int)))
      (pss_cons (ps_set (i := 3) sc_law_turned.nd rfl (Or.inl rfl) (pe_call G_law_odd (hr.mono (by decide)) (by rfl) m_law_odd k_law_odd b_law_odd .nil passL (pa_cons (pe_op op_fdivP (pv 1) pe_int) pa_nil)))
      (pss_cons (ps_set (i := 4) sc_law_turned.nd rfl (Or.inl rfl) (pe_op op_mod (pe_op op_fdivP (pv 1) pe_int) pe_int))
      (pss_cons (ps_if (pt_cmpR op_eq (pv 4) pe_int (nomark _)) (pss_one (ps_ret (pe_join pe_str (pe_op op_cat (pe_op op_cat (pe_slice sl_list (pv 0) po_none (po_some (pv 2))) (pe_lst (pa_cons (pv 3) pa_nil))) (pe_slice sl_list (pv 0) (po_some (pv 2)) po_none))))) pss_nil)
      (pss_cons (ps_if (pt_cmpR op_eq (pv 4) pe_int (nomark _)) (pss_one (ps_ret (pe_join pe_str (pe_op op_cat (pe_op op_cat (pe_slice sl_list (pv 0) po_none (po_some (pv 2))) (pe_lst (pa_cons (pv 3) pa_nil))) (pe_slice sl_list (pv 0) (po_some (pe_op op_add (pv 2) pe_int)) po_none))))) pss_nil)
      (pss_cons (ps_if (pt_cmpR op_eq (pv 4) pe_int (nomark _)) (pss_one (ps_ret (pe_op op_add_str (pe_op op_add_str (pe_join (pe_ix ix_list (pe_lst (pa_cons pe_str (pa_cons pe_str (pa_cons pe_str pa_nil)))) (pe_op op_mod (pe_op op_fdivP (pv 1) pe_int) pe_int) (fun _ _ => rfl)) (pe_slice sl_list (pv 0) po_none (po_some (pv 2)))) pe_str) (pe_join pe_str (pe_slice sl_list (pv 0) (po_some (pv 2)) po_none))))) pss_nil)
      (pss_cons (ps_if (pt_cmpR op_eq (pv 4) pe_int (nomark _)) (pss_one (ps_ret (pe_ix ix_list (pe_lst (pa_cons pe_str (pa_cons pe_str (pa_cons pe_str (pa_cons pe_str (pa_cons pe_str (pa_cons pe_str (pa_cons pe_str (pa_cons pe_str pa_nil))))))))) (pe_op op_mod (pe_op op_fdivP (pv 1) pe_int) pe_int) (fun _ _ => rfl)))) pss_nil)
      (pss_one (ps_ret (pe_join pe_str (pv 0))))))))))), ?_⟩
    have wl := wt.len
    refine ⟨_, rfl, _, rfl, a, _, rfl, .inl hA, _, _, rfl, rfl, _, _, rfl, rfl, by rw [List.length_map]; omega, ?_⟩
    obtain ⟨m, em, m0⟩ : ∃ m : Int, c % ((((ws.map V.str).length : Nat) : Int) + 1) = m ∧ 0 ≤ m := ⟨_, rfl, Int.emod_nonneg _ (by omega)⟩
    show tSeq _ _ _ [some (.ref a), some (.int c), some (.int (c % ((((ws.map V.str).length : Nat) : Int) + 1))), none, none] H
    rw [em]
    refine ⟨_, rfl, _, _, rfl, rfl, (Sz.lit : Sz 3 7).cd (by decide), _, rfl, fun odd H1 o1 o2 s1 => ?_⟩
    have hA1 := s1.seq hA
    refine ⟨_, rfl, _, _, rfl, rfl, (Sz.lit : Sz 8 154).cd (by decide), _, _, rfl, rfl, by show (0 : Int) < 5; decide, ?_⟩
    refine ⟨_, rfl, rfl, _, rfl, ite2 (fun _ => ?_) (fun _ => ?_)⟩
    · obtain ⟨y1, y2, e1, e2, n, w1, w2⟩ := cut_two ws m0 (Int.le_refl m)
      obtain ⟨n7, each⟩ := mix_ok wt ⟨o1, o2⟩ (by omega) w1 w2
      obtain ⟨j, sz⟩ := join_ok n7 each gap_ok
      refine ⟨⟨_, rfl⟩, _, rfl, _, rfl, _, rfl, a, _, rfl, hA1, fun p np => ⟨_, rfl, by show 1 ≤ sizeLine; decide, fun r nr => ?_⟩⟩
      have t1 := same_new np (o := .lst (cutV (ws.map V.str) none (some m)))
      have t2 := same_new nr (o := .lst [.str odd])
      refine ⟨p, r, y1.map V.str, _, rfl, rfl, by rw [t2 _ _ upd_same, e1], upd_same, szl (by rw [List.length_map]; show y1.length + 1 ≤ _; omega), fun u nu => ?_⟩
      have t3 := same_new nu (o := .lst (y1.map V.str ++ [.str odd]))
      have t123 := (t1.trans t2).trans t3
      refine ⟨_, rfl, _, rfl, _, rfl, a, _, rfl, t123.seq hA1, fun v nv => ?_⟩
      have t4 := same_new nv (o := .lst (cutV (ws.map V.str) (some m) none))
      refine ⟨u, v, _, y2.map V.str, rfl, rfl, t4 _ _ upd_same, by rw [upd_same, e2], szl (by rw [List.length_append, List.length_map, List.length_map]; show y1.length + 1 + y2.length ≤ _; omega), fun x nx => ?_⟩
      refine ⟨_, x, y1 ++ [odd] ++ y2, rfl, rfl, .inl (SqL.of ?_), sz, q _ _ j.t (s1.trans ((t123.trans t4).trans (same_new nx)))⟩
      rw [upd_same, List.map_append, List.map_append] <;> rfl
    refine ⟨_, rfl, rfl, _, rfl, ite2 (fun _ => ?_) (fun _ => ?_)⟩
    · obtain ⟨y1, y2, e1, e2, n, w1, w2⟩ := cut_two ws m0 (by omega : m ≤ m + 1)
      obtain ⟨n7, each⟩ := mix_ok wt ⟨o1, o2⟩ (by omega) w1 w2
      obtain ⟨j, sz⟩ := join_ok n7 each gap_ok
      refine ⟨⟨_, rfl⟩, _, rfl, _, rfl, _, rfl, a, _, rfl, hA1, fun p np => ⟨_, rfl, by show 1 ≤ sizeLine; decide, fun r nr => ?_⟩⟩
      have t1 := same_new np (o := .lst (cutV (ws.map V.str) none (some m)))
      have t2 := same_new nr (o := .lst [.str odd])
      refine ⟨p, r, y1.map V.str, _, rfl, rfl, by rw [t2 _ _ upd_same, e1], upd_same, szl (by rw [List.length_map]; show y1.length + 1 ≤ _; omega), fun u nu => ?_⟩
      have t3 := same_new nu (o := .lst (y1.map V.str ++ [.str odd]))
      have t123 := (t1.trans t2).trans t3
      refine ⟨_, rfl, _, rfl, _, _, rfl, rfl, _, rfl, a, _, rfl, t123.seq hA1, fun v nv => ?_⟩
      have t4 := same_new nv (o := .lst (cutV (ws.map V.str) (some (m + 1)) none))
      refine ⟨u, v, _, y2.map V.str, rfl, rfl, t4 _ _ upd_same, by rw [upd_same, e2], szl (by rw [List.length_append, List.length_map, List.length_map]; show y1.length + 1 + y2.length ≤ _; omega), fun x nx => ?_⟩
      refine ⟨_, x, y1 ++ [odd] ++ y2, rfl, rfl, .inl (SqL.of ?_), sz, q _ _ j.t (s1.trans ((t123.trans t4).trans (same_new nx)))⟩
      rw [upd_same, List.map_append, List.map_append] <;> rfl
    refine ⟨_, rfl, rfl, _, rfl, ite2 (fun _ => ?_) (fun _ => ?_)⟩
    · obtain ⟨y1, y2, e1, e2, n, w1, w2⟩ := cut_two ws m0 (Int.le_refl m)
      obtain ⟨i, hi, ei⟩ : ∃ i : Nat, i < sepS.length ∧ c / 770 % 3 = (i : Int) := ⟨(c / 770 % 3).toNat, by show _ < 3; omega, by omega⟩
      have g := List.getElem?_eq_getElem hi
      obtain ⟨j1, z1⟩ := join_ok (by omega : y1.length ≤ 7) (fun w hw => wt.each w (w1 w hw)) (sepS_ok _ (List.mem_of_getElem? g))
      obtain ⟨j2, z2⟩ := join_ok (by omega : y2.length ≤ 7) (fun w hw => wt.each w (w2 w hw)) gap_ok
      refine ⟨by show 3 ≤ sizeLine; decide, fun p np => ?_⟩
      have t1 := same_new np (o := .lst (sepS.map V.str))
      refine ⟨_, rfl, _, _, rfl, rfl, (Sz.lit : Sz 10 770).cd (by decide), _, _, rfl, rfl, by show (0 : Int) < 3; decide, p, sepS.map V.str, _, _, rfl, rfl, SqL.of upd_same, at_of (j := i) ei (get_map g), ?_⟩
      refine ⟨⟨_, rfl⟩, _, rfl, _, rfl, _, rfl, a, _, rfl, t1.seq hA1, fun r nr => ?_⟩
      have t2 := same_new nr (o := .lst (cutV (ws.map V.str) none (some m)))
      refine ⟨_, r, y1, rfl, rfl, .inl (SqL.of (by rw [upd_same, e1])), z1, ?_⟩
      have l1 := j1.len
      have l2 := j2.len
      have p1 := j1.plus
      have p2 := j2.plus
      have gl : gap.length ≤ 3 := gap_ok.1
      refine ⟨_, _, rfl, rfl, szl (by show _ + gap.length ≤ _; omega), ?_⟩
      refine ⟨⟨_, rfl⟩, _, rfl, _, rfl, _, rfl, a, _, rfl, (t1.trans t2).seq hA1, fun v nv => ?_⟩
      refine ⟨_, v, y2, rfl, rfl, .inl (SqL.of (by rw [upd_same, e2])), z2, ?_⟩
      refine ⟨_, _, rfl, rfl, szl (by show (_ ++ gap).length + (Txt.join gap y2).length ≤ _; rw [Str.length_append]; omega), ?_⟩
      refine q _ _ ⟨?_, ?_⟩ (s1.trans ((t1.trans t2).trans (same_new nv)))
      · show ((Txt.join sepS[i] y1 ++ gap) ++ Txt.join gap y2).length ≤ 10000
        rw [Str.length_append, Str.length_append]
        omega
      · show plusC (tl ((Txt.join sepS[i] y1 ++ gap) ++ Txt.join gap y2)) ≤ 60
        rw [tl_append, tl_append, plus_add, plus_add]
        have := gap_ok.2
        omega
    refine ⟨_, rfl, rfl, _, rfl, ite2 (fun _ => ?_) (fun _ => ?_)⟩
    · obtain ⟨i, hi, ei⟩ : ∃ i : Nat, i < flatS.length ∧ c / 770 % 8 = (i : Int) := ⟨(c / 770 % 8).toNat, by show _ < 8; omega, by omega⟩
      have g := List.getElem?_eq_getElem hi
      obtain ⟨b1, b2⟩ := flatS_ok _ (List.mem_of_getElem? g)
      refine ⟨by show 8 ≤ sizeLine; decide, fun p np => ?_⟩
      refine ⟨_, rfl, _, _, rfl, rfl, (Sz.lit : Sz 10 770).cd (by decide), _, _, rfl, rfl, by show (0 : Int) < 8; decide, p, flatS.map V.str, _, _, rfl, rfl, SqL.of upd_same, at_of (j := i) ei (get_map g), ?_⟩
      exact q _ _ (JOk.t ⟨b1, b2⟩) (s1.trans (same_new np))
    · obtain ⟨j, sz⟩ := join_ok (by omega : ws.length ≤ 7) wt.each gap_ok
      exact ⟨⟨_, rfl⟩, _, rfl, _, a, ws, rfl, rfl, .inl hA1, sz, q _ _ j.t s1⟩

abbrev s_law_due : Stmt := topS 22
abbrev N_law_due : List Str := ["text", "shares", "word", "sign"]
theorem sc_law_due : FnScope N_law_due ["text"] (defScope s_law_due) := ⟨rfl, rfl, rfl, by decide +kernel, rfl, by decide +kernel, by decide +kernel⟩
open TL
/-- what is due: the numbers, or a word -/
def DueAt (H : Hp) (p : Addr) (t : Str) : Prop := match goodF t with
  | none => H p = some (.tup [.non, .str "bad"])
  | some xs => (Ris xs ∧ ∃ l, H p = some (.tup [.ref l, .str ""]) ∧ H l = some (.lst (xs.map V.int))) ∨ (¬ Ris xs ∧ H p = some (.tup [.non, .str "not rising"]))
def sp_law_due (K : PySem.W.Frag) (_ : ErrA) : Sp := fun vs H Q _ => ∃ t : Str, vs = [.str t] ∧ (t.length ≤ 10000 ∧ plusC (tl t) ≤ 60) ∧ ∀ H' p, Same H H' → H p = none → DueAt H' p t → Q (.ref p) H'
theorem ok_law_due (D : Stands K mg "_law_due" s_law_due) (B : Bi mg) (Er : ErrOk K mg e) : Keeps P w K mg base 1 "_law_due" ["text"] (sp_law_due K e) := by
  obtain ⟨f, fd, F, mF⟩ := D
  refine ⟨f, fd, ?_, F.binds (ps := ["text"]) (fun _ _ _ _ _ _ us hl => match us, hl with | [_], _ => rfl), mF, F.kp⟩
  refine toX (F.ok sc_law_due (fun vs H Q E h => ?_) (fun cdv A outer s H vs Q E hr h => ?_))
  · obtain ⟨t, rfl, ok, q⟩ := h
    rfl
  · obtain ⟨t, rfl, ok, q⟩ := h
    refine ⟨_, (pss_cons (ps_if (pt_cmpR op_eq (pv 0) pe_str (nomark _)) (pss_one (ps_ret (pe_tup (pa_cons (pe_lst pa_nil) (pa_cons pe_str pa_nil))))) pss_nil)
      (pss_cons (ps_set (i := 1) sc_law_due.nd rfl (Or.inl rfl) (pe_lst pa_nil))
      (pss_cons (ps_for PassesOwn.never rfl (pi_list (pe_split (pv 0) pe_str)) (pg_name (i := 2) sc_law_due.nd rfl (Or.inl rfl)) (pss_cons (ps_if (PW.pt (pw_or (pt_cmpR op_ne (pe_slice sl_str (pv 2) po_none (po_some pe_int)) pe_str (nomark _)) (pw_or (pt_cmpR op_eq (pe_slice sl_str (pv 2) (po_some pe_int) po_none) pe_str (nomark _)) (pw_or (pt_cmpR op_gt (pe_callB call_len_str (by rfl) B.len (by decide +kernel) (pa_cons (pv 2) pa_nil)) pe_int (nomark _)) (pw_or1 (pt_cmpR op_eq (pe_ix ix_str (pv 2) pe_int (fun _ _ => rfl)) pe_str (nomark _))))))) (pss_one (ps_ret (pe_tup (pa_cons pe_non (pa_cons pe_str pa_nil))))) pss_nil)
      (pss_cons (ps_for PassesOwn.never rfl (pi_str (pe_slice sl_str (pv 2) (po_some pe_int) po_none)) (pg_name (i := 3) sc_law_due.nd rfl (Or.inl rfl)) (pss_one (ps_if (pt_cmpR op_notIn_sign (pv 3) pe_str rfl) (pss_one (ps_ret (pe_tup (pa_cons pe_non (pa_cons pe_str pa_nil))))) pss_nil)))
      (pss_one (ps_expr (pe_bm PySem.F.plainAttrs_list PySem.F.slot_list_append PySem.F.type_list_append mt_append (pv 1) (pa_cons (pe_callTy call_int_str (by rfl) B.int (by decide +kernel) (pa_cons (pe_slice sl_str (pv 2) (po_some pe_int) po_none) pa_nil)) pa_nil)))))))
      (pss_cons (ps_if (pt_cmpR (op_neD hr.units) (pv 1) (pe_callB (cr_sortedSet rfl) (by rfl) B.sorted (by decide +kernel) (pa_cons (pe_callTy (cr_setL rfl) (by rfl) B.set (by decide +kernel) (pa_cons (pv 1) pa_nil)) pa_nil)) (nomark _)) (pss_one (ps_ret (pe_tup (pa_cons pe_non (pa_cons pe_str pa_nil))))) pss_nil)
      (pss_one (ps_ret (pe_tup (pa_cons (pv 1) (pa_cons pe_str pa_nil))))))))), ?_⟩
    by_cases t0 : tl t = [48]
    · refine ⟨_, rfl, rfl, _, rfl, ?_⟩
      rw [show decide (V.str t = V.str "0") = true from decide_eq_true (str_eq.mpr (by rw [t0, lit_0]))]
      refine iteT ?_
      refine ⟨Nat.zero_le _, fun l nl => ⟨by show 2 ≤ sizeLine; decide, fun p np => q _ p ((same_new nl).trans (same_new np)) ((same_new nl).free np) ?_⟩⟩
      unfold DueAt
      rw [goodF_0 t0]
      exact .inl ⟨List.Pairwise.nil, l, upd_same, same_new np _ _ upd_same⟩
    · refine ⟨_, rfl, rfl, _, rfl, ?_⟩
      rw [show decide (V.str t = V.str "0") = false from decide_eq_false (fun z => t0 (by rw [str_eq.mp z, lit_0]))]
      refine iteF ?_
      refine ⟨Nat.zero_le _, fun D nD => ?_⟩
      refine ⟨_, rfl, ⟨_, rfl⟩, t, _, rfl, rfl, by decide +kernel, szl (by omega), fun W nW => ?_⟩
      have eD0 : (upd (upd H D (.lst [])) W (.lst ((Txt.split t gap).map V.str))) D = some (.lst (([] : List Int).map V.int)) := same_new nW _ _ upd_same
      have eW0 : (upd (upd H D (.lst [])) W (.lst ((Txt.split t gap).map V.str))) W = some (.lst ((Txt.split t gap).map V.str)) := upd_same
      have WD : D ≠ W := ne_of_none (upd_same : (upd H D (.lst [])) D = some (.lst [])) nW
      have s0 := (same_new (o := .lst []) nD).trans (same_new (o := .lst ((Txt.split t gap).map V.str)) nW)
      have few := split_few t
      refine ⟨W, rfl, ⟨_, SqL.of eW0⟩, for_list (K := K) (a := W) (xs := (Txt.split t gap).map V.str) (fun i σ H' => Same H H' ∧ H' W = some (.lst ((Txt.split t gap).map V.str)) ∧ ∃ (ms : List Int) (v2 v3 : Option V), σ = [some (.str t), some (.ref D), v2, v3] ∧ ms.length = i ∧
        (∀ (j : Nat) (w : Str), j < i → (Txt.split t gap)[j]? = some w → ∃ m : Nat, shareF (tl w) = some m ∧ ms[j]? = some (m : Int)) ∧ H' D = some (.lst (ms.map V.int))) ⟨s0, eW0, [], none, none, rfl, rfl, fun j w z => absurd z (by omega), eD0⟩ (fun i σ H' _ h => SqL.of h.2.1) ?_ ?_⟩
      · rintro i y σ H1 hy ⟨s1, eW, ms, v2, v3, rfl, ml, each, eD⟩
        obtain ⟨w, ex, rfl⟩ := of_get_map hy
        have hw := List.mem_of_getElem? ex
        have hi := lt_of_get ex
        have wl := split_short t w hw
        have zw : w.length ≤ sizeLine := szl (by omega)
        have bad : ∀ {H' : Hp}, Same H H' → shareF (tl w) = none → 2 ≤ sizeLine ∧ ∀ p, H' p = none → Q (.ref p) (upd H' p (.tup [.non, .str "bad"])) := fun {H'} s no => ⟨by decide, fun p np => q _ p (s.trans (same_new np)) (s.free np) (by
          unfold DueAt
          rw [goodF_bad t0 hw no]
          exact upd_same)⟩
        have ef := cut_from w
        have wt := len_tl w
        refine ⟨_, rfl, _, rfl, w, rfl, zw, rfl, _, rfl, ?_⟩
        by_cases h1 : (tl w).take 2 = [49, 47]
        · rw [show decide (V.str (cutS w none (some 2)) = V.str "1/") = true from decide_eq_true (str_eq.mpr (by rw [cut_to, h1, lit_1]))]
          refine iteF ?_
          refine ⟨_, rfl, _, rfl, w, rfl, zw, rfl, _, rfl, ?_⟩
          by_cases h2 : (tl w).drop 2 = []
          · rw [show decide (V.str (cutS w (some 2) none) = V.str "") = true from decide_eq_true (str_eq.mpr (by rw [ef, h2, lit_e]))]
            exact iteT (iteT (bad s1 (shareF_no fun z => z.2.1 h2)))
          · rw [show decide (V.str (cutS w (some 2) none) = V.str "") = false from decide_eq_false (fun z => h2 (by rw [← ef, str_eq.mp z, lit_e]))]
            refine iteF ?_
            refine ⟨_, rfl, w, rfl, zw, _, _, rfl, rfl, _, rfl, ite2 (fun h3 => ?_) (fun h3 => ?_)⟩
            · have h3 : (402 : Int) < (w.length : Int) := of_decide_eq_true h3
              exact iteT (bad s1 (shareF_no fun z => by
                have := z.2.2.1
                rw [List.length_drop, ← wt] at this
                omega))
            · have h3 : ¬ (402 : Int) < (w.length : Int) := fun z => h3 (decide_eq_true z)
              obtain ⟨c, r, ec⟩ := List.exists_cons_of_ne_nil h2
              have at2 : (tl w)[2]? = some c := by
                have : ((tl w).drop 2)[0]? = some c := by rw [ec] <;> rfl
                rw [List.getElem?_drop] at this
                exact this
              have fl : (cutS w (some 2) none).length ≤ 400 := by
                rw [len_tl, ef, List.length_drop, ← wt]
                omega
              refine ⟨_, rfl, w, _, c, rfl, rfl, zw, atI_nat (j := 2) at2, rfl, _, rfl, ?_⟩
              by_cases h4 : c = 48
              · rw [show decide (V.str ⟨#[c]⟩ = V.str "0") = true from decide_eq_true (by rw [h4] <;> rfl)]
                exact iteT (bad s1 (shareF_no fun z => z.2.2.2.1 (by rw [ec, h4] <;> rfl)))
              · rw [show decide (V.str ⟨#[c]⟩ = V.str "0") = false from decide_eq_false (fun z => h4 (sign_eq.mp z))]
                refine iteF ?_
                refine ⟨_, rfl, _, rfl, w, rfl, zw, _, rfl, for_str (x := cutS w (some 2) none) (fun i σ H' => H' = H1 ∧ (∃ v : Option V, σ = [some (.str t), some (.ref D), some (.str w), v]) ∧ ∀ (j d : Nat), j < i → (tl (cutS w (some 2) none))[j]? = some d → 48 ≤ d ∧ d ≤ 57) ⟨rfl, ⟨v3, rfl⟩, fun j d z => absurd z (by omega)⟩ ?_ ?_⟩
                · rintro k d σ H' ed ⟨rfl, ⟨v, rfl⟩, all⟩
                  refine ⟨_, rfl, d, _, rfl, rfl, _, rfl, ?_⟩
                  by_cases h5 : d ∈ tl ("0123456789" : Str)
                  · rw [show decide (d ∈ ("0123456789" : Str).cps.toList) = true from decide_eq_true h5]
                    refine iteF ⟨rfl, ⟨_, rfl⟩, fun j d' hj e' => ?_⟩
                    by_cases hji : j < k
                    · exact all j d' hji e'
                    · obtain rfl : j = k := by omega
                      rw [ed] at e'
                      cases e'
                      exact figs.mp h5
                  · rw [show decide (d ∈ ("0123456789" : Str).cps.toList) = false from decide_eq_false h5]
                    exact iteT (bad s1 (shareF_no fun z => h5 (figs.mpr (z.2.2.2.2 d (by rw [← ef]; exact List.mem_of_getElem? ed)))))
                · rintro σ H' ⟨rfl, ⟨v, rfl⟩, all⟩
                  have dig : NumText.AllDigits (tl (cutS w (some 2) none)) := fun d hd => by
                    obtain ⟨j, hj⟩ := List.mem_iff_getElem?.mp hd
                    exact all j d (lt_of_get hj) hj
                  have yes := shareF_yes (l := tl w) ⟨h1, h2, by rw [List.length_drop, ← wt]; omega, by rw [ec]; exact fun z => h4 (Option.some.inj z), by rw [← ef]; exact dig⟩
                  rw [← ef] at yes
                  refine ⟨_, rfl, .inl ⟨rfl, _, SqL.of eD⟩, _, rfl, _, rfl, w, rfl, zw, _, _, rfl, intText_digits dig (show tl (cutS w (some 2) none) ≠ [] by rw [ef]; exact h2) (by omega), by omega, D, _, _, rfl, rfl, eD, ?_, ?_⟩
                  · rw [List.length_map, ml]
                    exact szl_lt (by omega)
                  · refine ⟨same_mut s1 nD, ?_, ms ++ [((NumText.digitsVal (tl (cutS w (some 2) none)) : Nat) : Int)], _, _, rfl, by rw [List.length_append, ml] <;> rfl, fun j w' hj e' => ?_, ?_⟩
                    · rw [upd_ne WD.symm]
                      exact eW
                    · by_cases hji : j < i
                      · obtain ⟨m', a, b⟩ := each j w' hji e'
                        exact ⟨m', a, by rw [List.getElem?_append_left (by omega)]; exact b⟩
                      · obtain rfl : j = i := by omega
                        rw [ex] at e'
                        cases e'
                        exact ⟨_, yes, by rw [← ml, List.getElem?_concat_length]⟩
                    · rw [upd_same, List.map_append] <;> rfl
        · rw [show decide (V.str (cutS w none (some 2)) = V.str "1/") = false from decide_eq_false (fun z => h1 (by rw [← cut_to, str_eq.mp z, lit_1]))]
          exact iteT (iteT (bad s1 (shareF_no fun z => h1 z.1)))
      · rintro σ H1 ⟨s1, eW, xs, v2, v3, rfl, xl, each, eD⟩
        rw [List.length_map] at xl each
        have good := goodF_yes t0 (ms := xs) (fun j w ew => each j w (lt_of_get ew) ew) xl
        refine ⟨_, rfl, _, rfl, D, xs, rfl, SqL.of eD, by omega, fun s c ns' hc => ?_⟩
        refine ⟨s, _, _, rfl, upd_same, by omega, fun zs q2 pw mem hl nq => ?_⟩
        have s9 := (same_new (o := SetO w s (fun j => decide (j ∈ xs)) c) ns').trans (same_new (o := .lst (zs.map V.int)) nq)
        have eq2 : (upd (upd H1 s (SetO w s (fun j => decide (j ∈ xs)) c)) q2 (.lst (zs.map V.int))) q2 = some (.lst (zs.map V.int)) := upd_same
        refine ⟨_, _, dp_ints (SqL.of (s9 _ _ eD)), dp_ints (SqL.of eq2), shaped_ints _, shaped_ints _, _, rfl, ?_⟩
        rw [eqv_ints]
        by_cases r : Ris xs
        · have same : zs = xs := ris_uniq pw r fun k => by rw [mem k]; simp only [decide_eq_true_eq]
          rw [decide_eq_true same.symm]
          show if (!true) = true then _ else _
          refine iteF ?_
          refine ⟨_, rfl, by show 2 ≤ sizeLine; decide, fun p np => q _ p ((s1.trans s9).trans (same_new np)) ((s1.trans s9).free np) ?_⟩
          unfold DueAt
          rw [good]
          exact .inl ⟨r, D, upd_same, same_new np _ _ (s9 _ _ eD)⟩
        · rw [decide_eq_false (fun z => r (by rw [z]; exact pw))]
          show if (!false) = true then _ else _
          refine iteT ?_
          refine ⟨by show 2 ≤ sizeLine; decide, fun p np => q _ p ((s1.trans s9).trans (same_new np)) ((s1.trans s9).free np) ?_⟩
          unfold DueAt
          rw [good]
          exact .inr ⟨r, upd_same⟩

abbrev s_law_tried : Stmt := topS 23
abbrev N_law_tried : List Str := ["text", "found", "kinds", "e"]
theorem sc_law_tried : FnScope N_law_tried ["text"] (defScope s_law_tried) := ⟨rfl, rfl, rfl, by decide +kernel, rfl, by decide +kernel, by decide +kernel⟩
/-- what came of reading -/
def TriedAt (H : Hp) (p : Addr) (t : Str) : Prop := ∃ l, match goodF t with
  | none => H p = some (.tup [.non, .ref l]) ∧ H l = some (.lst [.bl false, .bl false, .bl false, .bl true, .bl false, .bl true])
  | some xs => (Ris xs ∧ ∃ r, H p = some (.tup [.ref r, .ref l]) ∧ H l = some (.lst []) ∧ H r = some (.lst (xs.map V.int))) ∨ (¬ Ris xs ∧ H p = some (.tup [.non, .ref l]) ∧ H l = some (.lst [.bl false, .bl false, .bl false, .bl false, .bl true, .bl true]))
def sp_law_tried (K : PySem.W.Frag) (e : ErrA) : Sp := fun vs H Q _ => ∃ t : Str, vs = [.str t] ∧ t.length ≤ 1000000 ∧ ∀ H' p, Same H H' → H p = none → TriedAt H' p t → Q (.ref p) H'
theorem ok_law_tried (D : Stands K mg "_law_tried" s_law_tried) (B : Bi mg) (Er : ErrOk K mg e)
    (h_read : Keeps P w K mg base 2 "read" ["text"] (sp_read K e))
    (h_law_kind : KeepsE P w K mg base 1 "_law_kind" ["e"] (sp_law_kind K e)) : Keeps P w K mg base 3 "_law_tried" ["text"] (sp_law_tried K e) := by
  obtain ⟨f, fd, F, mF⟩ := D
  obtain ⟨f_read, fd_read, G_read, b_read, m_read, k_read⟩ := h_read
  obtain ⟨f_law_kind, fd_law_kind, G_law_kind, b_law_kind, m_law_kind, k_law_kind⟩ := h_law_kind
  have h_ShareError := Er.ShareError
  refine ⟨f, fd, ?_, F.binds (ps := ["text"]) (fun _ _ _ _ _ _ us hl => match us, hl with | [_], _ => rfl), mF, F.kp⟩
  refine toX (F.ok sc_law_tried (fun vs H Q E h => ?_) (fun cdv A outer s H vs Q E hr h => ?_))
  · obtain ⟨t, rfl, tl9, q⟩ := h
    rfl
  · obtain ⟨t, rfl, tl9, q⟩ := h
    refine ⟨_, (pss_cons (ps_set (i := 1) sc_law_tried.nd rfl (Or.inl rfl) pe_non)
      (pss_cons (ps_set (i := 2) sc_law_tried.nd rfl (Or.inl rfl) (pe_lst pa_nil))
      (pss_cons (ps_try_as (i := 3) rfl rfl sc_law_tried.nd rfl rfl ⟨by rfl, by decide, .inl h_ShareError.g⟩ takes0 (fun W pn xe tk _ => (pss_one (ps_set (i := 1) sc_law_tried.nd rfl (Or.inl rfl) (pe_callS G_read (hr.mono (by decide)) (by rfl) m_read k_read b_read (fun σ => passAt tk σ) (pa_cons (pv 0) pa_nil)))))
      (fun a oe cls d pn hz hf => (pss_one (ps_set (i := 2) sc_law_tried.nd rfl (Or.inl rfl) (pe_callE G_law_kind (roomE hr (by decide)) List.mem_cons_self hz hf (by rfl) m_law_kind k_law_kind b_law_kind (pa_cons (pv 3) pa_nil))))))
      (pss_one (ps_ret (pe_tup (pa_cons (pv 1) (pa_cons (pv 2) pa_nil)))))))), ?_⟩
    refine ⟨Nat.zero_le _, fun l nl => ?_⟩
    have s1 := same_new (o := .lst []) nl
    have el : (upd H l (.lst [])) l = some (.lst []) := upd_same
    dsimp only
    generalize (upd H l (.lst [])) = H1 at s1 el
    refine ⟨_, rfl, t, rfl, tl9, fun no H2 s2 => ?_, fun xs gx nr H2 s2 => ?_, fun xs gx r H2 a s2 na ea => ?_⟩
    · refine ⟨true, Er.sub_BadText, fun _ x nx => ?_, fun z => nomatch z⟩
      refine ⟨_, rfl, rfl, rfl, _, _, _, _, _, _, _, Er.kind_BadText, rfl, fun H3 m s3 nm em => ?_⟩
      refine ⟨_, rfl, _, rfl, by show 2 ≤ sizeLine; decide, fun p np => ?_⟩
      refine q _ p (((s1.trans s2).trans s3).trans (same_new np)) (((s1.trans s2).trans s3).free np) ⟨m, ?_⟩
      rw [no]
      exact ⟨upd_same, same_new np _ _ em⟩
    · refine ⟨true, Er.sub_NotRising, fun _ x nx => ?_, fun z => nomatch z⟩
      refine ⟨_, rfl, rfl, rfl, _, _, _, _, _, _, _, Er.kind_NotRising, rfl, fun H3 m s3 nm em => ?_⟩
      refine ⟨_, rfl, _, rfl, by show 2 ≤ sizeLine; decide, fun p np => ?_⟩
      refine q _ p (((s1.trans s2).trans s3).trans (same_new np)) (((s1.trans s2).trans s3).free np) ⟨m, ?_⟩
      rw [gx]
      exact .inr ⟨nr, upd_same, same_new np _ _ em⟩
    · refine ⟨_, rfl, _, rfl, by show 2 ≤ sizeLine; decide, fun p np => ?_⟩
      refine q _ p ((s1.trans s2).trans (same_new np)) ((s1.trans s2).free np) ⟨l, ?_⟩
      rw [gx]
      exact .inl ⟨r, a, upd_same, same_new np _ _ (s2 _ _ el), same_new np _ _ ea⟩

abbrev s_law : Stmt := topS 24
abbrev N_law : List Str := ["script", "words", "text", "due", "tried", "k"]
theorem sc_law : FnScope N_law ["script"] (defScope s_law) := ⟨rfl, rfl, rfl, by decide +kernel, rfl, by decide +kernel, by decide +kernel⟩
open TL
theorem numL_small : ∀ n : Nat, n < 64 → (numL n).length ≤ 400 := by decide +kernel
theorem word_small {x : Int} (h1 : 1 ≤ x) (h2 : x < 64) : x.natAbs.log2 < 1920 ∧ ((("1/" : Str) ++ Str.ofString (toString x)).length ≤ 403 ∧ plusC (tl (("1/" : Str) ++ Str.ofString (toString x))) ≤ 1) ∧ ("1/" : Str).length + (Str.ofString (toString x)).length ≤ 402 := by
  obtain ⟨n, rfl⟩ := Int.eq_ofNat_of_zero_le (by omega : 0 ≤ x)
  have nl := numL_small n (by omega)
  have wl := word_len nl
  refine ⟨wr_log (xs := [(n : Int)]) (fun y hy => ⟨n, List.mem_singleton.mp hy, by omega, nl⟩) List.mem_cons_self, ⟨?_, ?_⟩, ?_⟩
  · show (wordF (n : Int)).length ≤ 403
    omega
  · show (tl (wordF (n : Int))).count 43 ≤ 1
    rw [List.count_eq_zero.mpr (word_free (n := n) (s := 43) (by decide) (by decide))]
    exact Nat.zero_le _
  · unfold wordF at wl
    rw [Str.length_append] at wl
    exact wl
theorem goodF_len {t : Str} {xs : List Int} (e : goodF t = some xs) : xs.length ≤ 1 + plusC (tl t) := by
  unfold goodF at e
  split at e
  · cases e
    exact Nat.zero_le _
  · split at e
    · cases e
      rw [List.length_map]
      unfold wordsF
      rw [List.length_map]
      exact split_few t
    · cases e
theorem ne_lit {x y : Str} (h : tl x ≠ tl y) : decide (V.str x = V.str y) = false := decide_eq_false fun z => h (str_eq.mp z)
theorem lits_ne : tl ("" : Str) ≠ tl ("bad" : Str) ∧ tl ("" : Str) ≠ tl ("not rising" : Str) ∧ tl ("not rising" : Str) ≠ tl ("bad" : Str) := by decide +kernel
def sp_law (K : PySem.W.Frag) : Sp := fun vs H Q _ => ∃ (a : Addr) (ns : List Int), vs = [.ref a] ∧ SqL K H a (ns.map V.int) ∧ ns.length ≤ 63 ∧ ∀ H', Q (.bl true) H'
theorem asg_m {te : TE} {i : Nat} {R : TS} {D : Ends} {σ : L2.St} {H : Hp} (h : te σ H fun x H1 => R D (σ.set i (some x)) H1) : tSeq (tAsg te (gName i)) R D σ H := h
theorem ok_law {f : Addr} {fd : FuncData} (F : Fun K "law" "law" s_law f fd) (B : Bi mg) (Er : ErrOk K mg e)
    (h_law_due : Keeps P w K mg base 1 "_law_due" ["text"] (sp_law_due K e))
    (h_law_tried : Keeps P w K mg base 3 "_law_tried" ["text"] (sp_law_tried K e))
    (h_law_turned : Keeps P w K mg base 2 "_law_turned" ["words", "cell"] (sp_law_turned K e))
    (h_law_list : Keeps P w K mg base 2 "_law_list" ["found", "due"] (sp_law_list K e))
    (h_law_cell_at : Keeps P w K mg base 1 "_law_cell_at" ["script", "k"] (sp_law_cell_at K e)) : FnOk P w K mg base CX0 4 f fd ["script"] (sp_law K) := by
  obtain ⟨f_law_due, fd_law_due, G_law_due, b_law_due, m_law_due, k_law_due⟩ := h_law_due
  obtain ⟨f_law_tried, fd_law_tried, G_law_tried, b_law_tried, m_law_tried, k_law_tried⟩ := h_law_tried
  obtain ⟨f_law_turned, fd_law_turned, G_law_turned, b_law_turned, m_law_turned, k_law_turned⟩ := h_law_turned
  obtain ⟨f_law_list, fd_law_list, G_law_list, b_law_list, m_law_list, k_law_list⟩ := h_law_list
  obtain ⟨f_law_cell_at, fd_law_cell_at, G_law_cell_at, b_law_cell_at, m_law_cell_at, k_law_cell_at⟩ := h_law_cell_at
  refine F.ok sc_law (fun vs H Q E h => ?_) (fun cdv A outer s H vs Q E hr h => ?_)
  · obtain ⟨a, ns, rfl, _⟩ := h
    rfl
  · obtain ⟨a, ns, rfl, hS, hlen, kq⟩ := h
    refine ⟨_, (pss_cons (ps_setLc (i := 1) (own := [("k", 5)]) (g := gName 5) (tt := tYes) (by rfl) sc_law.nd rfl rfl (sw_true rfl rfl rfl (by decide +kernel)) (pi_range1 (by rfl) B.range (pa_cons (pe_op op_add pe_int (pe_op op_mod (pe_call G_law_cell_at (hr.mono (by decide)) (by rfl) m_law_cell_at k_law_cell_at b_law_cell_at .nil passL (pa_cons (pv 0) (pa_cons pe_int pa_nil))) pe_int)) pa_nil)) (blkOk_by (N := N_law) (sc := defScope s_law) (by decide +kernel)) (fun _ _ _ _ _ => pg_name (i := 5) sc_law.nd rfl (Or.inl rfl)) (fun _ _ _ _ _ => pts_nil) (fun _ _ _ _ _ => (pe_op op_add_str pe_str (pe_callTy call_str_int (by rfl) B.str (by decide +kernel) (pa_cons (pe_op op_add pe_int (pe_op op_mod (pe_call G_law_cell_at (hr.mono (by decide)) (by rfl) m_law_cell_at k_law_cell_at b_law_cell_at .nil passL (pa_cons (pv 0) (pa_cons (pe_op op_add pe_int (pv 5)) pa_nil))) pe_int)) pa_nil)))))
      (pss_cons (ps_if (pt_cmpR op_eq (pe_op op_mod (pe_call G_law_cell_at (hr.mono (by decide)) (by rfl) m_law_cell_at k_law_cell_at b_law_cell_at .nil passL (pa_cons (pv 0) (pa_cons pe_int pa_nil))) pe_int) pe_int (nomark _)) (pss_one (ps_setLc (i := 1) (own := [("k", 5)]) (g := gName 5) (tt := tYes) (by rfl) sc_law.nd rfl rfl (sw_true rfl rfl rfl (by decide +kernel)) (pi_range1 (by rfl) B.range (pa_cons (pe_callB call_len_seq (by rfl) B.len (by decide +kernel) (pa_cons (pv 1) pa_nil)) pa_nil)) (blkOk_by (N := N_law) (sc := defScope s_law) (by decide +kernel)) (fun _ _ _ _ _ => pg_name (i := 5) sc_law.nd rfl (Or.inl rfl)) (fun _ _ _ _ _ => pts_nil) (fun _ _ _ _ _ => (pe_op op_add_str pe_str (pe_callTy call_str_int (by rfl) B.str (by decide +kernel) (pa_cons (pe_op op_add (pe_op op_add pe_int (pe_op op_mulW pe_int (pv 5))) (pe_op op_mod (pe_call G_law_cell_at (hr.mono (by decide)) (by rfl) m_law_cell_at k_law_cell_at b_law_cell_at .nil passL (pa_cons (pv 0) (pa_cons (pe_op op_add pe_int (pv 5)) pa_nil))) pe_int)) pa_nil)))))) pss_nil)
      (pss_cons (ps_set (i := 2) sc_law.nd rfl (Or.inl rfl) (pe_join pe_str (pv 1)))
      (pss_cons (ps_if (pt_cmpR op_gt (pe_op op_mod (pe_op op_fdivP (pe_call G_law_cell_at (hr.mono (by decide)) (by rfl) m_law_cell_at k_law_cell_at b_law_cell_at .nil passL (pa_cons (pv 0) (pa_cons pe_int pa_nil))) pe_int) pe_int) pe_int (nomark _)) (pss_one (ps_set (i := 2) sc_law.nd rfl (Or.inl rfl) (pe_call G_law_turned (hr.mono (by decide)) (by rfl) m_law_turned k_law_turned b_law_turned .nil passL (pa_cons (pv 1) (pa_cons (pe_call G_law_cell_at (hr.mono (by decide)) (by rfl) m_law_cell_at k_law_cell_at b_law_cell_at .nil passL (pa_cons (pv 0) (pa_cons pe_int pa_nil))) pa_nil))))) pss_nil)
      (pss_cons (ps_set (i := 3) sc_law.nd rfl (Or.inl rfl) (pe_call G_law_due (hr.mono (by decide)) (by rfl) m_law_due k_law_due b_law_due .nil passL (pa_cons (pv 2) pa_nil)))
      (pss_cons (ps_set (i := 4) sc_law.nd rfl (Or.inl rfl) (pe_call G_law_tried (hr.mono (by decide)) (by rfl) m_law_tried k_law_tried b_law_tried .nil passL (pa_cons (pv 2) pa_nil)))
      (pss_cons (ps_if (pt_cmpR op_eq (pe_ix ix_tup (pv 3) pe_int (fun _ _ => rfl)) pe_str (nomark _)) (pss_one (ps_ret (pe_cmpR (op_eqD hr.units) (pv 4) (pe_tup (pa_cons pe_non (pa_cons (pe_lst (pa_cons pe_bl (pa_cons pe_bl (pa_cons pe_bl (pa_cons pe_bl (pa_cons pe_bl (pa_cons pe_bl pa_nil))))))) pa_nil))) (nomark _)))) pss_nil)
      (pss_cons (ps_if (pt_cmpR op_eq (pe_ix ix_tup (pv 3) pe_int (fun _ _ => rfl)) pe_str (nomark _)) (pss_one (ps_ret (pe_cmpR (op_eqD hr.units) (pv 4) (pe_tup (pa_cons pe_non (pa_cons (pe_lst (pa_cons pe_bl (pa_cons pe_bl (pa_cons pe_bl (pa_cons pe_bl (pa_cons pe_bl (pa_cons pe_bl pa_nil))))))) pa_nil))) (nomark _)))) pss_nil)
      (pss_one (ps_ret (pe_and (pe_cmpR (op_eqD hr.units) (pe_ix ix_tup (pv 4) pe_int (fun _ _ => rfl)) (pe_lst pa_nil) (nomark _)) (pe_one (pe_call G_law_list (hr.mono (by decide)) (by rfl) m_law_list k_law_list b_law_list .nil passL (pa_cons (pe_ix ix_tup (pv 4) pe_int (fun _ _ => rfl)) (pa_cons (pe_ix ix_tup (pv 3) pe_int (fun _ _ => rfl)) pa_nil))))))))))))))), ?_⟩
    show tSeq (tAsg _ _) _ _ _ _
    refine cut (fun σ' H' => ∃ (D : Addr) (ws : List Str), σ' = [some (.ref a), some (.ref D), none, none, none, none] ∧ Same H H' ∧ H D = none ∧ H' D = some (.lst (ws.map V.str)) ∧ WT ws) (fun R E' k => ?_) ?_
    · refine ⟨_, rfl, a, ns, 0, rfl, hS, hlen, _, _, rfl, rfl, by show (0 : Int) < 6; decide, _, _, rfl, rfl, _, rfl, by omega, by omega, fun D nD => ?_⟩
      refine lc_range (lo := 0) (n := _) (fun i H' => Same H H' ∧ ∃ ws : List Str, ws.length = i ∧ (∀ w ∈ ws, w.length ≤ 403 ∧ plusC (tl w) ≤ 1) ∧ H' D = some (.lst (ws.map V.str))) ⟨same_new nD, [], rfl, (fun _ h => nomatch h), upd_same⟩ ?_ ?_
      · rintro i H1 hi ⟨s1, ws, wn, each, eD⟩
        obtain ⟨z1, z2, z3⟩ := word_small (x := 1 + cell ns (3 + i) % 30) (by omega) (by omega)
        refine ⟨rfl, _, rfl, _, rfl, _, _, rfl, rfl, a, ns, 3 + i, cell_arg (by omega), s1.seq hS, hlen, _, _, rfl, rfl, by show (0 : Int) < 30; decide, _, _, rfl, rfl, _, rfl, z1, _, _, rfl, rfl, Nat.le_trans z3 (szl (by decide)), _, eD, by rw [List.length_map]; exact szl_lt (by omega), same_mut s1 nD, ws ++ [_], by rw [List.length_append, wn] <;> rfl, fun w hw => ?_, by rw [upd_same, List.map_append] <;> rfl⟩
        rcases List.mem_append.mp hw with m | m
        · exact each w m
        · rw [List.mem_singleton.mp m]
          exact z2
      · rintro H1 ⟨s1, ws, wn, each, eD⟩
        exact k _ _ ⟨D, ws, rfl, s1, nD, eD, ⟨by omega, each⟩⟩
    rintro σ H1 ⟨D, ws, rfl, s1, nD, eD, wt⟩
    refine cut (fun σ' H' => ∃ (D : Addr) (ws : List Str), σ' = [some (.ref a), some (.ref D), none, none, none, none] ∧ Same H H' ∧ H' D = some (.lst (ws.map V.str)) ∧ WT ws) (fun R E' k => ?_) ?_
    · refine ⟨_, rfl, a, ns, 1, rfl, s1.seq hS, hlen, _, _, rfl, rfl, by show (0 : Int) < 2; decide, rfl, _, rfl, ite2 (fun _ => ?_) (fun _ => ?_)⟩
      · have wl := wt.len
        refine ⟨_, rfl, D, _, rfl, .inl (SqL.of eD), _, rfl, by omega, by rw [List.length_map]; omega, fun F nF => ?_⟩
        refine lc_range (lo := 0) (n := _) (fun i H' => Same H H' ∧ ∃ ws : List Str, ws.length = i ∧ (∀ w ∈ ws, w.length ≤ 403 ∧ plusC (tl w) ≤ 1) ∧ H' F = some (.lst (ws.map V.str))) ⟨s1.trans (same_new nF), [], rfl, (fun _ h => nomatch h), upd_same⟩ ?_ ?_
        · rintro i H2 hi ⟨s2, vs, wn, each, eF⟩
          rw [List.length_map] at hi
          have nF0 : H F = none := s1.free nF
          obtain ⟨z1, z2, z3⟩ := word_small (x := 2 + 5 * (0 + (i : Int)) + cell ns (3 + i) % 5) (by omega) (by omega)
          refine ⟨rfl, _, rfl, _, _, rfl, rfl, (Sz.lit : Sz 3 5).cm (Sz.mono (a := 10) (by show (0 + (i : Int)).natAbs < 1024; omega) (by decide) : Sz 10 (0 + (i : Int))), _, _, rfl, rfl, _, rfl, _, rfl, _, _, rfl, rfl, a, ns, 3 + i, cell_arg (by omega), s2.seq hS, hlen, _, _, rfl, rfl, by show (0 : Int) < 5; decide, _, _, rfl, rfl, _, rfl, z1, _, _, rfl, rfl, Nat.le_trans z3 (szl (by decide)), _, eF, by rw [List.length_map]; exact szl_lt (by omega), same_mut s2 nF0, vs ++ [_], by rw [List.length_append, wn] <;> rfl, fun w hw => ?_, by rw [upd_same, List.map_append] <;> rfl⟩
          rcases List.mem_append.mp hw with m | m
          · exact each w m
          · rw [List.mem_singleton.mp m]
            exact z2
        · rintro H2 ⟨s2, vs, wn, each, eF⟩
          rw [List.length_map] at wn
          exact k _ _ ⟨F, vs, rfl, s2, eF, ⟨by omega, each⟩⟩
      · exact k _ _ ⟨D, ws, rfl, s1, eD, wt⟩
    clear eD wt nD s1
    rintro σ H2 ⟨D, ws, rfl, s2, eD, wt⟩
    have wl := wt.len
    obtain ⟨j, sz⟩ := join_ok (by omega : ws.length ≤ 7) wt.each gap_ok
    refine asg_m ?_
    refine ⟨⟨_, rfl⟩, _, rfl, _, D, ws, rfl, rfl, .inl (SqL.of eD), sz, ?_⟩
    dsimp only
    refine cut (fun σ' H' => ∃ t : Str, σ' = [some (.ref a), some (.ref D), some (.str t), none, none, none] ∧ TOk t) (fun R E' k => ?_) ?_
    · refine ⟨_, rfl, a, ns, 1, rfl, s2.seq hS, hlen, _, _, rfl, rfl, (Sz.lit : Sz 3 2).cd (by decide), _, _, rfl, rfl, by show (0 : Int) < 4; decide, _, _, rfl, rfl, _, rfl, ite2 (fun _ => ?_) (fun _ => ?_)⟩
      · refine ⟨_, rfl, _, rfl, a, ns, 2, rfl, s2.seq hS, hlen, D, _, ws, rfl, SqL.of eD, wt, fun t H3 ok s3 => ?_⟩
        exact k _ _ ⟨t, rfl, ok⟩
      · exact k _ _ ⟨_, rfl, j.t⟩
    rintro σ H3 ⟨t, rfl, ok⟩
    refine ⟨_, rfl, t, rfl, ok, fun H4 p s4 np dat => ?_⟩
    refine ⟨_, rfl, t, rfl, by have := ok.1; omega, fun H5 q s5 nq tat => ?_⟩
    obtain ⟨l, tat⟩ := tat
    unfold DueAt at dat
    cases eg : goodF t with
    | none =>
      rw [eg] at dat tat
      obtain ⟨eq, el⟩ := tat
      have ep := s5 _ _ dat
      refine ⟨_, rfl, p, _, 1, _, rfl, rfl, SqT.of ep, atI_nat (j := 1) rfl, rfl, _, rfl, ?_⟩
      rw [show decide (V.str ("bad" : Str) = V.str "bad") = true from decide_eq_true rfl]
      refine iteT ?_
      refine ⟨_, rfl, by show 6 ≤ sizeLine; decide, fun l2 nl2 => ⟨by show 2 ≤ sizeLine; decide, fun p2 np2 => ?_⟩⟩
      have s8 := (same_new (o := .lst [.bl false, .bl false, .bl false, .bl true, .bl false, .bl true]) nl2).trans (same_new (o := .tup [.non, .ref l2]) np2)
      refine ⟨_, _, dp_noneK (s8 _ _ eq) (s8 _ _ el), dp_noneK upd_same (same_new np2 _ _ upd_same), rfl, rfl, ?_⟩
      rw [eqv_noneK]
      exact kq _
    | some xs =>
      have xl := goodF_len eg
      rw [eg] at dat tat
      rcases dat with ⟨r, d, dat, ed⟩ | ⟨r, dat⟩
      · rcases tat with ⟨_, x, eq, el, ex⟩ | ⟨nr, _⟩
        · have ep := s5 _ _ dat
          have ed5 := s5 _ _ ed
          refine ⟨_, rfl, p, _, 1, _, rfl, rfl, SqT.of ep, atI_nat (j := 1) rfl, rfl, _, rfl, ?_⟩
          rw [ne_lit lits_ne.1]
          refine iteF ?_
          refine ⟨_, rfl, p, _, 1, _, rfl, rfl, SqT.of ep, atI_nat (j := 1) rfl, rfl, _, rfl, ?_⟩
          rw [ne_lit lits_ne.2.1]
          refine iteF ?_
          refine ⟨_, rfl, q, _, 1, _, rfl, rfl, SqT.of eq, atI_nat (j := 1) rfl, Nat.zero_le _, fun z nz => ⟨_, _, dp_ints (xs := []) (SqL.of (same_new nz _ _ el)), dp_ints (xs := []) (SqL.of upd_same), rfl, rfl, _, rfl, ?_⟩⟩
          rw [eqv_ints, decide_eq_true rfl]
          refine iteT ?_
          have sz := same_new (o := .lst []) nz
          refine ⟨_, rfl, q, _, 0, _, rfl, rfl, SqT.of (sz _ _ eq), atI_nat (j := 0) rfl, _, rfl, p, _, 0, _, rfl, rfl, SqT.of (sz _ _ ep), atI_nat (j := 0) rfl, x, d, xs, rfl, SqL.of (sz _ _ ex), SqL.of (sz _ _ ed5), by have := ok.2; omega, kq _⟩
        · exact absurd r nr
      · rcases tat with ⟨yr, _⟩ | ⟨_, eq, el⟩
        · exact absurd yr r
        · have ep := s5 _ _ dat
          refine ⟨_, rfl, p, _, 1, _, rfl, rfl, SqT.of ep, atI_nat (j := 1) rfl, rfl, _, rfl, ?_⟩
          rw [ne_lit lits_ne.2.2]
          refine iteF ?_
          refine ⟨_, rfl, p, _, 1, _, rfl, rfl, SqT.of ep, atI_nat (j := 1) rfl, rfl, _, rfl, ?_⟩
          rw [show decide (V.str ("not rising" : Str) = V.str "not rising") = true from decide_eq_true rfl]
          refine iteT ?_
          refine ⟨_, rfl, by show 6 ≤ sizeLine; decide, fun l2 nl2 => ⟨by show 2 ≤ sizeLine; decide, fun p2 np2 => ?_⟩⟩
          have s8 := (same_new (o := .lst [.bl false, .bl false, .bl false, .bl false, .bl true, .bl true]) nl2).trans (same_new (o := .tup [.non, .ref l2]) np2)
          refine ⟨_, _, dp_noneK (s8 _ _ eq) (s8 _ _ el), dp_noneK upd_same (same_new np2 _ _ upd_same), rfl, rfl, ?_⟩
          rw [eqv_noneK]
          exact kq _

end

theorem all_mk {l : PySem.W.OpenLaw} {w : World} {K : PySem.W.Frag} {h : Heap} {mg : Str → Option Value} {fa : Addr} (X : K.In h) (G : h.Ns mainGlobals mg) (hfa : mg "law" = some (.ref fa))
    {f0 : Addr} {od0 an0 : Option Addr} {sl0 : Array (Option Value)} {oc0 kV0 dc0 pm0 cd0 ct0 : Value}
    {f1 : Addr} {od1 an1 : Option Addr} {sl1 : Array (Option Value)} {oc1 kV1 dc1 pm1 cd1 ct1 : Value}
    {f2 : Addr} {od2 an2 : Option Addr} {sl2 : Array (Option Value)} {oc2 kV2 dc2 pm2 cd2 ct2 : Value}
    {f3 : Addr} {od3 an3 : Option Addr} {sl3 : Array (Option Value)} {oc3 kV3 dc3 pm3 cd3 ct3 : Value}
    {f4 : Addr} {od4 an4 : Option Addr} {sl4 : Array (Option Value)} {oc4 kV4 dc4 pm4 cd4 ct4 : Value}
    {f5 : Addr} {od5 an5 : Option Addr} {sl5 : Array (Option Value)} {oc5 kV5 dc5 pm5 cd5 ct5 : Value}
    {f6 : Addr} {od6 an6 : Option Addr} {sl6 : Array (Option Value)} {oc6 kV6 dc6 pm6 cd6 ct6 : Value}
    {f7 : Addr} {od7 an7 : Option Addr} {sl7 : Array (Option Value)} {oc7 kV7 dc7 pm7 cd7 ct7 : Value}
    {f8 : Addr} {od8 an8 : Option Addr} {sl8 : Array (Option Value)} {oc8 kV8 dc8 pm8 cd8 ct8 : Value}
    {f9 : Addr} {od9 an9 : Option Addr} {sl9 : Array (Option Value)} {oc9 kV9 dc9 pm9 cd9 ct9 : Value}
    {f10 : Addr} {od10 an10 : Option Addr} {sl10 : Array (Option Value)} {oc10 kV10 dc10 pm10 cd10 ct10 : Value}
    {tk_FIGURES : Tok}
    {CShareError : Addr}
    {CNoFraction : Addr}
    {CNotBelow : Addr}
    {CTooGreat : Addr}
    {CBadText : Addr}
    {CNotRising : Addr}
    (a0 : PySem.W.nsIn K mainGlobals "share_of" = some (some (.ref f0)))
    (l0 : K.lookup f0 = some ⟨oc0, od0, .func (PySem.W.fnOf "share_of" "share_of" (defArgs s_share_of) (defBody s_share_of) (defScope s_share_of) .none kV0 dc0 pm0 an0 cd0 ct0), sl0⟩)
    (c0 : PySem.W.codeIn K cd0 "share_of" = true)
    (k0 : PySem.W.keepIn K (.ref f0) = true)
    (a1 : PySem.W.nsIn K mainGlobals "read" = some (some (.ref f1)))
    (l1 : K.lookup f1 = some ⟨oc1, od1, .func (PySem.W.fnOf "read" "read" (defArgs s_read) (defBody s_read) (defScope s_read) .none kV1 dc1 pm1 an1 cd1 ct1), sl1⟩)
    (c1 : PySem.W.codeIn K cd1 "read" = true)
    (k1 : PySem.W.keepIn K (.ref f1) = true)
    (a2 : PySem.W.nsIn K mainGlobals "_law_cell_at" = some (some (.ref f2)))
    (l2 : K.lookup f2 = some ⟨oc2, od2, .func (PySem.W.fnOf "_law_cell_at" "_law_cell_at" (defArgs s_law_cell_at) (defBody s_law_cell_at) (defScope s_law_cell_at) .none kV2 dc2 pm2 an2 cd2 ct2), sl2⟩)
    (c2 : PySem.W.codeIn K cd2 "_law_cell_at" = true)
    (k2 : PySem.W.keepIn K (.ref f2) = true)
    (a3 : PySem.W.nsIn K mainGlobals "_law_whole" = some (some (.ref f3)))
    (l3 : K.lookup f3 = some ⟨oc3, od3, .func (PySem.W.fnOf "_law_whole" "_law_whole" (defArgs s_law_whole) (defBody s_law_whole) (defScope s_law_whole) .none kV3 dc3 pm3 an3 cd3 ct3), sl3⟩)
    (c3 : PySem.W.codeIn K cd3 "_law_whole" = true)
    (k3 : PySem.W.keepIn K (.ref f3) = true)
    (a4 : PySem.W.nsIn K mainGlobals "_law_list" = some (some (.ref f4)))
    (l4 : K.lookup f4 = some ⟨oc4, od4, .func (PySem.W.fnOf "_law_list" "_law_list" (defArgs s_law_list) (defBody s_law_list) (defScope s_law_list) .none kV4 dc4 pm4 an4 cd4 ct4), sl4⟩)
    (c4 : PySem.W.codeIn K cd4 "_law_list" = true)
    (k4 : PySem.W.keepIn K (.ref f4) = true)
    (a5 : PySem.W.nsIn K mainGlobals "_law_kind" = some (some (.ref f5)))
    (l5 : K.lookup f5 = some ⟨oc5, od5, .func (PySem.W.fnOf "_law_kind" "_law_kind" (defArgs s_law_kind) (defBody s_law_kind) (defScope s_law_kind) .none kV5 dc5 pm5 an5 cd5 ct5), sl5⟩)
    (c5 : PySem.W.codeIn K cd5 "_law_kind" = true)
    (k5 : PySem.W.keepIn K (.ref f5) = true)
    (a6 : PySem.W.nsIn K mainGlobals "_law_odd" = some (some (.ref f6)))
    (l6 : K.lookup f6 = some ⟨oc6, od6, .func (PySem.W.fnOf "_law_odd" "_law_odd" (defArgs s_law_odd) (defBody s_law_odd) (defScope s_law_odd) .none kV6 dc6 pm6 an6 cd6 ct6), sl6⟩)
    (c6 : PySem.W.codeIn K cd6 "_law_odd" = true)
    (k6 : PySem.W.keepIn K (.ref f6) = true)
    (a7 : PySem.W.nsIn K mainGlobals "_law_turned" = some (some (.ref f7)))
    (l7 : K.lookup f7 = some ⟨oc7, od7, .func (PySem.W.fnOf "_law_turned" "_law_turned" (defArgs s_law_turned) (defBody s_law_turned) (defScope s_law_turned) .none kV7 dc7 pm7 an7 cd7 ct7), sl7⟩)
    (c7 : PySem.W.codeIn K cd7 "_law_turned" = true)
    (k7 : PySem.W.keepIn K (.ref f7) = true)
    (a8 : PySem.W.nsIn K mainGlobals "_law_due" = some (some (.ref f8)))
    (l8 : K.lookup f8 = some ⟨oc8, od8, .func (PySem.W.fnOf "_law_due" "_law_due" (defArgs s_law_due) (defBody s_law_due) (defScope s_law_due) .none kV8 dc8 pm8 an8 cd8 ct8), sl8⟩)
    (c8 : PySem.W.codeIn K cd8 "_law_due" = true)
    (k8 : PySem.W.keepIn K (.ref f8) = true)
    (a9 : PySem.W.nsIn K mainGlobals "_law_tried" = some (some (.ref f9)))
    (l9 : K.lookup f9 = some ⟨oc9, od9, .func (PySem.W.fnOf "_law_tried" "_law_tried" (defArgs s_law_tried) (defBody s_law_tried) (defScope s_law_tried) .none kV9 dc9 pm9 an9 cd9 ct9), sl9⟩)
    (c9 : PySem.W.codeIn K cd9 "_law_tried" = true)
    (k9 : PySem.W.keepIn K (.ref f9) = true)
    (a10 : PySem.W.nsIn K mainGlobals "law" = some (some (.ref f10)))
    (l10 : K.lookup f10 = some ⟨oc10, od10, .func (PySem.W.fnOf "law" "law" (defArgs s_law) (defBody s_law) (defScope s_law) .none kV10 dc10 pm10 an10 cd10 ct10), sl10⟩)
    (c10 : PySem.W.codeIn K cd10 "law" = true)
    (k10 : PySem.W.keepIn K (.ref f10) = true)
    (z0 : PySem.W.nsIn K mainGlobals "len" = some none)
    (z1 : PySem.W.nsIn K mainGlobals "range" = some none)
    (z2 : PySem.W.nsIn K mainGlobals "min" = some none)
    (z3 : PySem.W.nsIn K mainGlobals "max" = some none)
    (z4 : PySem.W.nsIn K mainGlobals "sum" = some none)
    (z5 : PySem.W.nsIn K mainGlobals "sorted" = some none)
    (z6 : PySem.W.nsIn K mainGlobals "set" = some none)
    (z7 : PySem.W.nsIn K mainGlobals "dict" = some none)
    (z8 : PySem.W.nsIn K mainGlobals "list" = some none)
    (z9 : PySem.W.nsIn K mainGlobals "str" = some none)
    (z10 : PySem.W.nsIn K mainGlobals "int" = some none)
    (z11 : PySem.W.nsIn K mainGlobals "isinstance" = some none)
    (z12 : PySem.W.nsIn K mainGlobals "bool" = some none)
    (z13 : PySem.W.nsIn K mainGlobals "tuple" = some none)
    (z14 : PySem.W.nsIn K mainGlobals "ValueError" = some none)
    (q_FIGURES : PySem.W.nsIn K mainGlobals "FIGURES" = some (some (.str "0123456789" tk_FIGURES)))
    (nShareError : PySem.W.nsIn K mainGlobals "ShareError" = some (some (.ref CShareError)))
    (e0ShareError : PySem.W.excIn K CShareError veT "ValueError.__new__" = true)
    (e1ShareError : PySem.W.keepIn K (.ref CShareError) = true)
    (e2ShareError : PySem.W.subIn K (.ref CShareError) (.type "BaseException") = some true)
    (e3ShareError : PySem.W.typeIn K (.ref CShareError) = some (.type "type"))
    (nNoFraction : PySem.W.nsIn K mainGlobals "NoFraction" = some (some (.ref CNoFraction)))
    (e0NoFraction : PySem.W.excIn K CNoFraction veT "ValueError.__new__" = true)
    (e1NoFraction : PySem.W.keepIn K (.ref CNoFraction) = true)
    (e2NoFraction : PySem.W.subIn K (.ref CNoFraction) (.type "BaseException") = some true)
    (e3NoFraction : PySem.W.typeIn K (.ref CNoFraction) = some (.type "type"))
    (nNotBelow : PySem.W.nsIn K mainGlobals "NotBelow" = some (some (.ref CNotBelow)))
    (e0NotBelow : PySem.W.excIn K CNotBelow veT "ValueError.__new__" = true)
    (e1NotBelow : PySem.W.keepIn K (.ref CNotBelow) = true)
    (e2NotBelow : PySem.W.subIn K (.ref CNotBelow) (.type "BaseException") = some true)
    (e3NotBelow : PySem.W.typeIn K (.ref CNotBelow) = some (.type "type"))
    (nTooGreat : PySem.W.nsIn K mainGlobals "TooGreat" = some (some (.ref CTooGreat)))
    (e0TooGreat : PySem.W.excIn K CTooGreat veT "ValueError.__new__" = true)
    (e1TooGreat : PySem.W.keepIn K (.ref CTooGreat) = true)
    (e2TooGreat : PySem.W.subIn K (.ref CTooGreat) (.type "BaseException") = some true)
    (e3TooGreat : PySem.W.typeIn K (.ref CTooGreat) = some (.type "type"))
    (nBadText : PySem.W.nsIn K mainGlobals "BadText" = some (some (.ref CBadText)))
    (e0BadText : PySem.W.excIn K CBadText veT "ValueError.__new__" = true)
    (e1BadText : PySem.W.keepIn K (.ref CBadText) = true)
    (e2BadText : PySem.W.subIn K (.ref CBadText) (.type "BaseException") = some true)
    (e3BadText : PySem.W.typeIn K (.ref CBadText) = some (.type "type"))
    (nNotRising : PySem.W.nsIn K mainGlobals "NotRising" = some (some (.ref CNotRising)))
    (e0NotRising : PySem.W.excIn K CNotRising veT "ValueError.__new__" = true)
    (e1NotRising : PySem.W.keepIn K (.ref CNotRising) = true)
    (e2NotRising : PySem.W.subIn K (.ref CNotRising) (.type "BaseException") = some true)
    (e3NotRising : PySem.W.typeIn K (.ref CNotRising) = some (.type "type"))
    (hdShareError : PySem.W.hasDictIn K CShareError = true)
    (hdNoFraction : PySem.W.hasDictIn K CNoFraction = true)
    (hdNotBelow : PySem.W.hasDictIn K CNotBelow = true)
    (hdTooGreat : PySem.W.hasDictIn K CTooGreat = true)
    (hdBadText : PySem.W.hasDictIn K CBadText = true)
    (hdNotRising : PySem.W.hasDictIn K CNotRising = true)
    (x0BadText : PySem.W.findIn K (.ref CBadText) "__getattribute__" = some (some (.builtin "BaseException.__getattribute__")))
    (x1BadText : PySem.W.findIn K (.ref CBadText) "__getattr__" = some none)
    (x2BadText : PySem.W.subIn K (.ref CBadText) (.type "BaseException") = some true)
    (x4BadText : PySem.W.findIn K (.ref CBadText) "__class__" = some (some (.builtin "object.__class__")))
    (x5BadText : PySem.W.specialIn K (.builtin "object.__class__") "__get__" = some (some (.builtin "getset_descriptor.__get__")))
    (x6BadText : PySem.W.takesIn K (.builtin "object.__class__") = some true)
    (x7BadText : PySem.W.mroIn K CBadText (.type "object") = some true)
    (sBadText : PySem.W.subIn K (.ref CBadText) (.ref CShareError) = some true)
    (y0BadText : PySem.W.subIn K (.ref CBadText) (.ref CNoFraction) = some false)
    (y1BadText : PySem.W.subIn K (.ref CBadText) (.ref CNotBelow) = some false)
    (y2BadText : PySem.W.subIn K (.ref CBadText) (.ref CTooGreat) = some false)
    (y3BadText : PySem.W.subIn K (.ref CBadText) (.ref CBadText) = some true)
    (y4BadText : PySem.W.subIn K (.ref CBadText) (.ref CNotRising) = some false)
    (y5BadText : PySem.W.subIn K (.ref CBadText) (.type "ValueError") = some true)
    (x0NotRising : PySem.W.findIn K (.ref CNotRising) "__getattribute__" = some (some (.builtin "BaseException.__getattribute__")))
    (x1NotRising : PySem.W.findIn K (.ref CNotRising) "__getattr__" = some none)
    (x2NotRising : PySem.W.subIn K (.ref CNotRising) (.type "BaseException") = some true)
    (x4NotRising : PySem.W.findIn K (.ref CNotRising) "__class__" = some (some (.builtin "object.__class__")))
    (x5NotRising : PySem.W.specialIn K (.builtin "object.__class__") "__get__" = some (some (.builtin "getset_descriptor.__get__")))
    (x6NotRising : PySem.W.takesIn K (.builtin "object.__class__") = some true)
    (x7NotRising : PySem.W.mroIn K CNotRising (.type "object") = some true)
    (sNotRising : PySem.W.subIn K (.ref CNotRising) (.ref CShareError) = some true)
    (y0NotRising : PySem.W.subIn K (.ref CNotRising) (.ref CNoFraction) = some false)
    (y1NotRising : PySem.W.subIn K (.ref CNotRising) (.ref CNotBelow) = some false)
    (y2NotRising : PySem.W.subIn K (.ref CNotRising) (.ref CTooGreat) = some false)
    (y3NotRising : PySem.W.subIn K (.ref CNotRising) (.ref CBadText) = some false)
    (y4NotRising : PySem.W.subIn K (.ref CNotRising) (.ref CNotRising) = some true)
    (y5NotRising : PySem.W.subIn K (.ref CNotRising) (.type "ValueError") = some true)
    : ∃ fd : FuncData, (∀ (s : Shared) (v : Value), BindsTo s fd ⟨[v], []⟩ [("script", v)]) ∧ ∀ base : Heap, K.In base → base.Ns mainGlobals mg → FnOk l.prog w K mg base CX0 4 fa fd ["script"] (sp_law K) := by
  have ef := hfa.symm.trans (PySem.W.mg_of X G a10)
  cases ef
  have B : Bi mg := ⟨PySem.W.mg_none_of X G z0, PySem.W.mg_none_of X G z1, PySem.W.mg_none_of X G z2, PySem.W.mg_none_of X G z3, PySem.W.mg_none_of X G z4, PySem.W.mg_none_of X G z5, PySem.W.mg_none_of X G z6, PySem.W.mg_none_of X G z7, PySem.W.mg_none_of X G z8, PySem.W.mg_none_of X G z9, PySem.W.mg_none_of X G z10, PySem.W.mg_none_of X G z11, PySem.W.mg_none_of X G z12, PySem.W.mg_none_of X G z13, PySem.W.mg_none_of X G z14⟩
  have Er : ErrOk K mg ⟨CShareError, CNoFraction, CNotBelow, CTooGreat, CBadText, CNotRising⟩ := ⟨⟨PySem.W.mg_of X G nShareError, e0ShareError, e1ShareError, e2ShareError, e3ShareError⟩, ⟨PySem.W.mg_of X G nNoFraction, e0NoFraction, e1NoFraction, e2NoFraction, e3NoFraction⟩, ⟨PySem.W.mg_of X G nNotBelow, e0NotBelow, e1NotBelow, e2NotBelow, e3NotBelow⟩, ⟨PySem.W.mg_of X G nTooGreat, e0TooGreat, e1TooGreat, e2TooGreat, e3TooGreat⟩, ⟨PySem.W.mg_of X G nBadText, e0BadText, e1BadText, e2BadText, e3BadText⟩, ⟨PySem.W.mg_of X G nNotRising, e0NotRising, e1NotRising, e2NotRising, e3NotRising⟩, PySem.W.exm_ref e2ShareError hdShareError e3ShareError sBadText, ⟨⟨x0BadText, x1BadText, x2BadText, hdBadText, x4BadText, x5BadText, x6BadText, x7BadText⟩, kit_refs hdNoFraction e3NoFraction y0BadText y3BadText, kit_refs hdNotBelow e3NotBelow y1BadText y3BadText, kit_refs hdTooGreat e3TooGreat y2BadText y3BadText, kit_refs hdBadText e3BadText y3BadText y3BadText, kit_refs hdNotRising e3NotRising y4BadText y3BadText, kit_ve y5BadText⟩, PySem.W.exm_ref e2ShareError hdShareError e3ShareError sNotRising, ⟨⟨x0NotRising, x1NotRising, x2NotRising, hdNotRising, x4NotRising, x5NotRising, x6NotRising, x7NotRising⟩, kit_refs hdNoFraction e3NoFraction y0NotRising y4NotRising, kit_refs hdNotBelow e3NotBelow y1NotRising y4NotRising, kit_refs hdTooGreat e3TooGreat y2NotRising y4NotRising, kit_refs hdBadText e3BadText y3NotRising y4NotRising, kit_refs hdNotRising e3NotRising y4NotRising y4NotRising, kit_ve y5NotRising⟩⟩
  have S_share_of : Stands K mg "share_of" s_share_of := ⟨_, _, fun_mk (st := s_share_of) l0 c0 k0, PySem.W.mg_of X G a0⟩
  have S_read : Stands K mg "read" s_read := ⟨_, _, fun_mk (st := s_read) l1 c1 k1, PySem.W.mg_of X G a1⟩
  have S_law_cell_at : Stands K mg "_law_cell_at" s_law_cell_at := ⟨_, _, fun_mk (st := s_law_cell_at) l2 c2 k2, PySem.W.mg_of X G a2⟩
  have S_law_whole : Stands K mg "_law_whole" s_law_whole := ⟨_, _, fun_mk (st := s_law_whole) l3 c3 k3, PySem.W.mg_of X G a3⟩
  have S_law_list : Stands K mg "_law_list" s_law_list := ⟨_, _, fun_mk (st := s_law_list) l4 c4 k4, PySem.W.mg_of X G a4⟩
  have S_law_kind : Stands K mg "_law_kind" s_law_kind := ⟨_, _, fun_mk (st := s_law_kind) l5 c5 k5, PySem.W.mg_of X G a5⟩
  have S_law_odd : Stands K mg "_law_odd" s_law_odd := ⟨_, _, fun_mk (st := s_law_odd) l6 c6 k6, PySem.W.mg_of X G a6⟩
  have S_law_turned : Stands K mg "_law_turned" s_law_turned := ⟨_, _, fun_mk (st := s_law_turned) l7 c7 k7, PySem.W.mg_of X G a7⟩
  have S_law_due : Stands K mg "_law_due" s_law_due := ⟨_, _, fun_mk (st := s_law_due) l8 c8 k8, PySem.W.mg_of X G a8⟩
  have S_law_tried : Stands K mg "_law_tried" s_law_tried := ⟨_, _, fun_mk (st := s_law_tried) l9 c9 k9, PySem.W.mg_of X G a9⟩
  refine ⟨PySem.W.fnOf "law" "law" (defArgs s_law) (defBody s_law) (defScope s_law) .none kV10 dc10 pm10 an10 cd10 ct10, fun s v => .of_eq rfl, fun base _ _ => ?_⟩
  have O_share_of := ok_share_of (P := l.prog) (w := w) (base := base) S_share_of B Er ⟨_, PySem.W.mg_of X G q_FIGURES⟩
  have O_read := ok_read (P := l.prog) (w := w) (base := base) S_read B Er O_share_of
  have O_law_cell_at := ok_law_cell_at (P := l.prog) (w := w) (base := base) S_law_cell_at B Er 
  have O_law_whole := ok_law_whole (P := l.prog) (w := w) (base := base) S_law_whole B Er 
  have O_law_list := ok_law_list (P := l.prog) (w := w) (base := base) S_law_list B Er O_law_whole
  have O_law_kind := ok_law_kind (P := l.prog) (w := w) (base := base) S_law_kind B Er 
  have O_law_odd := ok_law_odd (P := l.prog) (w := w) (base := base) S_law_odd B Er 
  have O_law_turned := ok_law_turned (P := l.prog) (w := w) (base := base) S_law_turned B Er O_law_odd
  have O_law_due := ok_law_due (P := l.prog) (w := w) (base := base) S_law_due B Er 
  have O_law_tried := ok_law_tried (P := l.prog) (w := w) (base := base) S_law_tried B Er O_read O_law_kind
  exact ok_law (P := l.prog) (w := w) (base := base) (fun_mk (st := s_law) l10 c10 k10) B Er O_law_due O_law_tried O_law_turned O_law_list O_law_cell_at
end U
open PySem PySem.W PyProof.Rows
set_option maxHeartbeats 0 in
theorem PySem.Challenge.cw_unitshares_k14_read_holds : PySem.Challenge.rw_unitshares_k14_read.Holds := by
  w_on; o_law; k_head; (case hw => w_witness2)
  k_fill
  refine L2.walk_of (l := PySem.Challenge.rw_unitshares_k14_read) (n := 63) (k := 4) (x := "script") (CX := fun _ => L2.CX0) (sp := fun w => U.sp_law _) rfl (by decide) rfl ⟨rfl, by decide, by decide⟩ (fun w h Y => PySem.W.kIn_of Y) ?F (fun _ _ a ns hl _ hS => ⟨a, ns, rfl, hS, hl, fun _ => rfl⟩) (fun _ _ _ _ _ h => h)
  case F =>
    intro w mg fa h KX G hmg
    refine' U.all_mk KX G hmg ?a0 ?l0 ?c0 ?k0 ?a1 ?l1 ?c1 ?k1 ?a2 ?l2 ?c2 ?k2 ?a3 ?l3 ?c3 ?k3 ?a4 ?l4 ?c4 ?k4 ?a5 ?l5 ?c5 ?k5 ?a6 ?l6 ?c6 ?k6 ?a7 ?l7 ?c7 ?k7 ?a8 ?l8 ?c8 ?k8 ?a9 ?l9 ?c9 ?k9 ?a10 ?l10 ?c10 ?k10 ?z0 ?z1 ?z2 ?z3 ?z4 ?z5 ?z6 ?z7 ?z8 ?z9 ?z10 ?z11 ?z12 ?z13 ?z14 ?q_FIGURES ?nShareError ?e0ShareError ?e1ShareError ?e2ShareError ?e3ShareError ?nNoFraction ?e0NoFraction ?e1NoFraction ?e2NoFraction ?e3NoFraction ?nNotBelow ?e0NotBelow ?e1NotBelow ?e2NotBelow ?e3NotBelow ?nTooGreat ?e0TooGreat ?e1TooGreat ?e2TooGreat ?e3TooGreat ?nBadText ?e0BadText ?e1BadText ?e2BadText ?e3BadText ?nNotRising ?e0NotRising ?e1NotRising ?e2NotRising ?e3NotRising ?hdShareError ?hdNoFraction ?hdNotBelow ?hdTooGreat ?hdBadText ?hdNotRising ?x0BadText ?x1BadText ?x2BadText ?x4BadText ?x5BadText ?x6BadText ?x7BadText ?sBadText ?y0BadText ?y1BadText ?y2BadText ?y3BadText ?y4BadText ?y5BadText ?x0NotRising ?x1NotRising ?x2NotRising ?x4NotRising ?x5NotRising ?x6NotRising ?x7NotRising ?sNotRising ?y0NotRising ?y1NotRising ?y2NotRising ?y3NotRising ?y4NotRising ?y5NotRising
    (case a0 => k_is)
    (case l0 => k_is)
    (case c0 => k_is)
    (case k0 => k_is)
    (case a1 => k_is)
    (case l1 => k_is)
    (case c1 => k_is)
    (case k1 => k_is)
    (case a2 => k_is)
    (case l2 => k_is)
    (case c2 => k_is)
    (case k2 => k_is)
    (case a3 => k_is)
    (case l3 => k_is)
    (case c3 => k_is)
    (case k3 => k_is)
    (case a4 => k_is)
    (case l4 => k_is)
    (case c4 => k_is)
    (case k4 => k_is)
    (case a5 => k_is)
    (case l5 => k_is)
    (case c5 => k_is)
    (case k5 => k_is)
    (case a6 => k_is)
    (case l6 => k_is)
    (case c6 => k_is)
    (case k6 => k_is)
    (case a7 => k_is)
    (case l7 => k_is)
    (case c7 => k_is)
    (case k7 => k_is)
    (case a8 => k_is)
    (case l8 => k_is)
    (case c8 => k_is)
    (case k8 => k_is)
    (case a9 => k_is)
    (case l9 => k_is)
    (case c9 => k_is)
    (case k9 => k_is)
    (case a10 => k_is)
    (case l10 => k_is)
    (case c10 => k_is)
    (case k10 => k_is)
    (case z0 => k_is)
    (case z1 => k_is)
    (case z2 => k_is)
    (case z3 => k_is)
    (case z4 => k_is)
    (case z5 => k_is)
    (case z6 => k_is)
    (case z7 => k_is)
    (case z8 => k_is)
    (case z9 => k_is)
    (case z10 => k_is)
    (case z11 => k_is)
    (case z12 => k_is)
    (case z13 => k_is)
    (case z14 => k_is)
    (case q_FIGURES => k_is)
    (case nShareError => k_is)
    (case e0ShareError => k_exc)
    (case e1ShareError => k_is)
    (case e2ShareError => k_is)
    (case e3ShareError => k_is)
    (case nNoFraction => k_is)
    (case e0NoFraction => k_exc)
    (case e1NoFraction => k_is)
    (case e2NoFraction => k_is)
    (case e3NoFraction => k_is)
    (case nNotBelow => k_is)
    (case e0NotBelow => k_exc)
    (case e1NotBelow => k_is)
    (case e2NotBelow => k_is)
    (case e3NotBelow => k_is)
    (case nTooGreat => k_is)
    (case e0TooGreat => k_exc)
    (case e1TooGreat => k_is)
    (case e2TooGreat => k_is)
    (case e3TooGreat => k_is)
    (case nBadText => k_is)
    (case e0BadText => k_exc)
    (case e1BadText => k_is)
    (case e2BadText => k_is)
    (case e3BadText => k_is)
    (case nNotRising => k_is)
    (case e0NotRising => k_exc)
    (case e1NotRising => k_is)
    (case e2NotRising => k_is)
    (case e3NotRising => k_is)
    (case hdShareError => k_is)
    (case hdNoFraction => k_is)
    (case hdNotBelow => k_is)
    (case hdTooGreat => k_is)
    (case hdBadText => k_is)
    (case hdNotRising => k_is)
    (case x0BadText => k_is)
    (case x1BadText => k_is)
    (case x2BadText => k_is)
    (case x4BadText => k_is)
    (case x5BadText => k_is)
    (case x6BadText => k_is)
    (case x7BadText => k_is)
    (case sBadText => k_is)
    (case y0BadText => k_is)
    (case y1BadText => k_is)
    (case y2BadText => k_is)
    (case y3BadText => k_is)
    (case y4BadText => k_is)
    (case y5BadText => k_is)
    (case x0NotRising => k_is)
    (case x1NotRising => k_is)
    (case x2NotRising => k_is)
    (case x4NotRising => k_is)
    (case x5NotRising => k_is)
    (case x6NotRising => k_is)
    (case x7NotRising => k_is)
    (case sNotRising => k_is)
    (case y0NotRising => k_is)
    (case y1NotRising => k_is)
    (case y2NotRising => k_is)
    (case y3NotRising => k_is)
    (case y4NotRising => k_is)
    (case y5NotRising => k_is)
