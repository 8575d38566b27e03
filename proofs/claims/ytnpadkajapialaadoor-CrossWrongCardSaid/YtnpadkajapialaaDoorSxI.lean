/- The symbolic executor, proved sound: used by the laws' proofs of this seat. No conditions. -/
import Derived.Calls
import Derived.KernelRfl
/- The symbolic executor, part A: expressions, abstract values, abstract memory, and what they stand for. -/
namespace Go.Sx
open Go

/-- What a variable stands for: a number, a truth value, a row of numbers, a list of rows. -/
structure U where
  i : Int := 0
  b : Bool := false
  r : List Int := []
  l : List (List Int) := []
  deriving DecidableEq

inductive UnO where
  | neg | not | len | wrap (k : IntKind) | tab (l : List Int)
  deriving DecidableEq

inductive BiO where
  | add | sub | mul | quo | rem | min | max
  | lt | le | eq
  | and | or | beq
  | cons | row | snoc | app | take | drop | rep
  | bit (op : BinOp) (k : IntKind)
  | find
  deriving DecidableEq

inductive TeO where
  | ite | get | elems | ent | put
  deriving DecidableEq

inductive E where
  | lit (n : Int)
  | bl (b : Bool)
  | nil
  | var (i : Nat)
  | un (o : UnO) (a : E)
  | bi (o : BiO) (a b : E)
  | te (o : TeO) (a b c : E)
  | se (A i j x : E)
  | fn1 (f : Nat) (a : E)
  | fn2 (f : Nat) (a b : E)
  | fn3 (f : Nat) (a b c : E)
  | fn4 (f : Nat) (a b c d : E)
  deriving DecidableEq

/-- What the function signs stand for. -/
structure Itp where
  f1 : Nat → U → U
  f2 : Nat → U → U → U
  f3 : Nat → U → U → U → U
  f4 : Nat → U → U → U → U → U

def bitsOp (op : BinOp) (k : IntKind) (x y : Int) : Int :=
  match op with
  | .and => k.wrap ((BitVec.ofInt k.bits x &&& BitVec.ofInt k.bits y).toNat)
  | .or => k.wrap ((BitVec.ofInt k.bits x ||| BitVec.ofInt k.bits y).toNat)
  | .xor => k.wrap ((BitVec.ofInt k.bits x ^^^ BitVec.ofInt k.bits y).toNat)
  | .andNot => k.wrap ((BitVec.ofInt k.bits x &&& ~~~(BitVec.ofInt k.bits y)).toNat)
  | .shl => k.wrap (x * 2 ^ (Nat.min y.toNat k.bits))
  | .shr => x.fdiv (2 ^ (Nat.min y.toNat k.bits))
  | _ => 0

def setAt (A : List (List Int)) (i j : Nat) (x : Int) : List (List Int) := A.set i ((A.getD i []).set j x)

/-- does a row begin with this key? -/
def keyIs (k r : List Int) : Bool := r.take k.length == k
/-- where the row with this key is; behind the last one if there is none -/
def findRow (A : List (List Int)) (k : List Int) : Nat := A.findIdx (keyIs k)
def entRow (A : List (List Int)) (k r : List Int) : List (List Int) := if findRow A k < A.length then A else A ++ [r]
def putRow (A : List (List Int)) (k r : List Int) : List (List Int) := if findRow A k < A.length then A.set (findRow A k) r else A ++ [r]

def UnO.den : UnO → U → U
  | .neg, u => { i := -u.i }
  | .not, u => { b := !u.b }
  | .len, u => { i := u.l.length }
  | .wrap k, u => { i := k.wrap u.i }
  | .tab l, u => { i := l.getD u.i.toNat 0 }

def BiO.den : BiO → U → U → U
  | .add, u, v => { i := u.i + v.i }
  | .sub, u, v => { i := u.i - v.i }
  | .mul, u, v => { i := u.i * v.i }
  | .quo, u, v => { i := u.i.tdiv v.i }
  | .rem, u, v => { i := u.i.tmod v.i }
  | .min, u, v => { i := if v.i < u.i then v.i else u.i }
  | .max, u, v => { i := if v.i > u.i then v.i else u.i }
  | .lt, u, v => { b := decide (u.i < v.i) }
  | .le, u, v => { b := decide (u.i ≤ v.i) }
  | .eq, u, v => { b := u.i == v.i }
  | .and, u, v => { b := u.b && v.b }
  | .or, u, v => { b := u.b || v.b }
  | .beq, u, v => { b := u.b == v.b }
  | .cons, u, v => { r := u.i :: v.r }
  | .row, u, v => { l := u.r :: v.l }
  | .snoc, u, v => { l := u.l ++ [v.r] }
  | .app, u, v => { l := u.l ++ v.l }
  | .take, u, v => { l := u.l.take v.i.toNat }
  | .drop, u, v => { l := u.l.drop v.i.toNat }
  | .rep, u, v => { l := List.replicate u.i.toNat v.r }
  | .bit op k, u, v => { i := bitsOp op k u.i v.i }
  | .find, u, v => { i := findRow u.l v.r }

def TeO.den : TeO → U → U → U → U
  | .ite, c, a, b => if c.b then a else b
  | .get, A, i, j => { i := (A.l.getD i.i.toNat []).getD j.i.toNat 0 }
  | .elems, A, lo, hi => { b := A.l.all fun r => r.all fun x => decide (lo.i ≤ x) && decide (x ≤ hi.i) }
  | .ent, A, k, r => { l := entRow A.l k.r r.r }
  | .put, A, k, r => { l := putRow A.l k.r r.r }

def E.den (I : Itp) (ρ : List U) : E → U
  | .lit n => { i := n }
  | .bl b => { b := b }
  | .nil => {}
  | .var i => ρ.getD i {}
  | .un o a => o.den (a.den I ρ)
  | .bi o a b => o.den (a.den I ρ) (b.den I ρ)
  | .te o a b c => o.den (a.den I ρ) (b.den I ρ) (c.den I ρ)
  | .se A i j x => { l := setAt (A.den I ρ).l (i.den I ρ).i.toNat (j.den I ρ).i.toNat (x.den I ρ).i }
  | .fn1 f a => I.f1 f (a.den I ρ)
  | .fn2 f a b => I.f2 f (a.den I ρ) (b.den I ρ)
  | .fn3 f a b c => I.f3 f (a.den I ρ) (b.den I ρ) (c.den I ρ)
  | .fn4 f a b c d => I.f4 f (a.den I ρ) (b.den I ρ) (c.den I ρ) (d.den I ρ)

def E.subst (θ : List E) : E → E
  | .lit n => .lit n
  | .bl b => .bl b
  | .nil => .nil
  | .var i => θ.getD i .nil
  | .un o a => .un o (a.subst θ)
  | .bi o a b => .bi o (a.subst θ) (b.subst θ)
  | .te o a b c => .te o (a.subst θ) (b.subst θ) (c.subst θ)
  | .se A i j x => .se (A.subst θ) (i.subst θ) (j.subst θ) (x.subst θ)
  | .fn1 f a => .fn1 f (a.subst θ)
  | .fn2 f a b => .fn2 f (a.subst θ) (b.subst θ)
  | .fn3 f a b c => .fn3 f (a.subst θ) (b.subst θ) (c.subst θ)
  | .fn4 f a b c d => .fn4 f (a.subst θ) (b.subst θ) (c.subst θ) (d.subst θ)

theorem E.den_subst (I : Itp) (ρ : List U) (θ : List E) : ∀ e : E, (e.subst θ).den I ρ = e.den I (θ.map (E.den I ρ))
  | .lit _ => rfl
  | .bl _ => rfl
  | .nil => rfl
  | .var i => by
    simp only [E.subst, E.den, List.getD_eq_getElem?_getD, List.getElem?_map]
    cases θ[i]? <;> rfl
  | .un o a => by simp only [E.subst, E.den, E.den_subst I ρ θ a]
  | .bi o a b => by simp only [E.subst, E.den, E.den_subst I ρ θ a, E.den_subst I ρ θ b]
  | .te o a b c => by simp only [E.subst, E.den, E.den_subst I ρ θ a, E.den_subst I ρ θ b, E.den_subst I ρ θ c]
  | .se A i j x => by simp only [E.subst, E.den, E.den_subst I ρ θ A, E.den_subst I ρ θ i, E.den_subst I ρ θ j, E.den_subst I ρ θ x]
  | .fn1 f a => by simp only [E.subst, E.den, E.den_subst I ρ θ a]
  | .fn2 f a b => by simp only [E.subst, E.den, E.den_subst I ρ θ a, E.den_subst I ρ θ b]
  | .fn3 f a b c => by simp only [E.subst, E.den, E.den_subst I ρ θ a, E.den_subst I ρ θ b, E.den_subst I ρ θ c]
  | .fn4 f a b c d => by simp only [E.subst, E.den, E.den_subst I ρ θ a, E.den_subst I ρ θ b, E.den_subst I ρ θ c, E.den_subst I ρ θ d]

/-- Syntactic equality, quick for the kernel. -/
def E.same : E → E → Bool
  | .lit a, .lit b => a == b
  | .bl a, .bl b => a == b
  | .nil, .nil => true
  | .var i, .var j => i == j
  | .un o a, .un o' a' => decide (o = o') && a.same a'
  | .bi o a b, .bi o' a' b' => decide (o = o') && a.same a' && b.same b'
  | .te o a b c, .te o' a' b' c' => decide (o = o') && a.same a' && b.same b' && c.same c'
  | .se A i j x, .se A' i' j' x' => A.same A' && i.same i' && j.same j' && x.same x'
  | .fn1 f a, .fn1 f' a' => f == f' && a.same a'
  | .fn2 f a b, .fn2 f' a' b' => f == f' && a.same a' && b.same b'
  | .fn3 f a b c, .fn3 f' a' b' c' => f == f' && a.same a' && b.same b' && c.same c'
  | .fn4 f a b c d, .fn4 f' a' b' c' d' => f == f' && a.same a' && b.same b' && c.same c' && d.same d'
  | _, _ => false

theorem E.same_eq : ∀ {a b : E}, a.same b = true → a = b := by
  intro a
  induction a <;> intro b h <;> cases b <;> simp [E.same] at h <;> simp_all <;> grind

end Go.Sx

/- The symbolic executor, part B: what is known (the tests taken), ranges, and expressions made simpler. -/
namespace Go.Sx
open Go

/-- All that is known holds. -/
def Holds (I : Itp) (ρ : List U) (pc : List E) : Prop := ∀ c ∈ pc, (c.den I ρ).b = true

theorem Holds.cons {I : Itp} {ρ : List U} {pc : List E} {c : E} (hc : (c.den I ρ).b = true) (h : Holds I ρ pc) : Holds I ρ (c :: pc) := by
  intro d hd
  rcases List.mem_cons.1 hd with rfl | hd
  · exact hc
  · exact h d hd

theorem Holds.append {I : Itp} {ρ : List U} {pc qc : List E} (h : Holds I ρ pc) (h' : Holds I ρ qc) : Holds I ρ (pc ++ qc) := by
  intro d hd
  rcases List.mem_append.1 hd with hd | hd
  · exact h d hd
  · exact h' d hd

abbrev Rng := Option Int × Option Int
def RngOk (p : Rng) (x : Int) : Prop := (∀ l, p.1 = some l → l ≤ x) ∧ (∀ h, p.2 = some h → x ≤ h)

def omax : Option Int → Option Int → Option Int
  | some a, some b => some (if a ≤ b then b else a)
  | some a, none => some a
  | none, b => b
def omin : Option Int → Option Int → Option Int
  | some a, some b => some (if a ≤ b then a else b)
  | some a, none => some a
  | none, b => b
def oadd : Option Int → Option Int → Option Int
  | some a, some b => some (a + b)
  | _, _ => none
def oneg : Option Int → Option Int
  | some a => some (-a)
  | none => none
/-- the bound that holds of both -/
def owide (f : Int → Int → Int) : Option Int → Option Int → Option Int
  | some a, some b => some (f a b)
  | _, _ => none
def imin (a b : Int) : Int := if a ≤ b then a else b
def imax (a b : Int) : Int := if a ≤ b then b else a

theorem RngOk.inter {p q : Rng} {x : Int} (h : RngOk p x) (h' : RngOk q x) : RngOk (omax p.1 q.1, omin p.2 q.2) x := by
  obtain ⟨p1, p2⟩ := p
  obtain ⟨q1, q2⟩ := q
  simp only [RngOk] at *
  constructor
  · intro l hl
    cases p1 <;> cases q1 <;> simp [omax] at hl h h' <;> first | omega | (split at hl <;> omega)
  · intro l hl
    cases p2 <;> cases q2 <;> simp [omin] at hl h h' <;> first | omega | (split at hl <;> omega)

theorem RngOk.none (x : Int) : RngOk (Option.none, Option.none) x := ⟨fun _ h => by simp at h, fun _ h => by simp at h⟩

theorem RngOk.add {p q : Rng} {x y : Int} (h : RngOk p x) (h' : RngOk q y) : RngOk (oadd p.1 q.1, oadd p.2 q.2) (x + y) := by
  obtain ⟨p1, p2⟩ := p
  obtain ⟨q1, q2⟩ := q
  simp only [RngOk] at *
  constructor
  · intro l hl
    cases p1 <;> cases q1 <;> simp [oadd] at hl h h'; omega
  · intro l hl
    cases p2 <;> cases q2 <;> simp [oadd] at hl h h'; omega

theorem RngOk.neg {p : Rng} {x : Int} (h : RngOk p x) : RngOk (oneg p.2, oneg p.1) (-x) := by
  obtain ⟨p1, p2⟩ := p
  simp only [RngOk] at *
  constructor
  · intro l hl
    cases p2 <;> simp [oneg] at hl h; omega
  · intro l hl
    cases p1 <;> simp [oneg] at hl h; omega

theorem RngOk.wide {p q : Rng} {x y z : Int} (h : RngOk p x) (h' : RngOk q y) (hz : z = x ∨ z = y) : RngOk (owide imin p.1 q.1, owide imax p.2 q.2) z := by
  obtain ⟨p1, p2⟩ := p
  obtain ⟨q1, q2⟩ := q
  simp only [RngOk] at *
  constructor
  · intro l hl
    cases p1 <;> cases q1 <;> simp [owide, imin] at hl h h'; split at hl <;> omega
  · intro l hl
    cases p2 <;> cases q2 <;> simp [owide, imax] at hl h h'; split at hl <;> omega

/-- What one known test says of e, the other side's range given by f. -/
def factRng (f : E → Rng) (e : E) : E → Rng
  | .bi .le a b => (if b.same e then (f a).1 else none, if a.same e then (f b).2 else none)
  | .bi .lt a b => (if b.same e then oadd (f a).1 (some 1) else none, if a.same e then oadd (f b).2 (some (-1)) else none)
  | .bi .eq a b => if a.same e then f b else if b.same e then f a else (none, none)
  | _ => (none, none)

theorem factRng_ok {I : Itp} {ρ : List U} {f : E → Rng} (hf : ∀ e, RngOk (f e) (e.den I ρ).i) (e c : E) (hc : (c.den I ρ).b = true) :
    RngOk (factRng f e c) (e.den I ρ).i := by
  unfold factRng
  split
  · rename_i a b
    simp [E.den, BiO.den] at hc
    constructor
    · intro l hl
      by_cases hs : b.same e
      · have := E.same_eq hs; subst this
        simp [hs] at hl
        have := (hf a).1 l hl; omega
      · simp [hs] at hl
    · intro l hl
      by_cases hs : a.same e
      · have := E.same_eq hs; subst this
        simp [hs] at hl
        have := (hf b).2 l hl; omega
      · simp [hs] at hl
  · rename_i a b
    simp [E.den, BiO.den] at hc
    constructor
    · intro l hl
      by_cases hs : b.same e
      · have := E.same_eq hs; subst this
        simp [hs] at hl
        cases hfa : (f a).1 with
        | none => simp [hfa, oadd] at hl
        | some v => simp [hfa, oadd] at hl; have := (hf a).1 v hfa; omega
      · simp [hs] at hl
    · intro l hl
      by_cases hs : a.same e
      · have := E.same_eq hs; subst this
        simp [hs] at hl
        cases hfa : (f b).2 with
        | none => simp [hfa, oadd] at hl
        | some v => simp [hfa, oadd] at hl; have := (hf b).2 v hfa; omega
      · simp [hs] at hl
  · rename_i a b
    simp [E.den, BiO.den] at hc
    split
    · rename_i hs
      have := E.same_eq hs; subst this
      rw [hc]; exact hf b
    · split
      · rename_i hs
        have := E.same_eq hs; subst this
        rw [← hc]; exact hf a
      · exact .none _
  · exact .none _

def factsRng (f : E → Rng) (e : E) : List E → Rng
  | [] => (none, none)
  | c :: cs => let p := factRng f e c; let q := factsRng f e cs; (omax p.1 q.1, omin p.2 q.2)

theorem factsRng_ok {I : Itp} {ρ : List U} {f : E → Rng} (hf : ∀ e, RngOk (f e) (e.den I ρ).i) (e : E) :
    ∀ pc, Holds I ρ pc → RngOk (factsRng f e pc) (e.den I ρ).i
  | [], _ => .none _
  | c :: cs, h => RngOk.inter (factRng_ok hf e c (h c (List.mem_cons_self ..))) (factsRng_ok hf e cs (fun d hd => h d (List.mem_cons_of_mem _ hd)))

/-- The range of the elements of a list, if it is known. -/
def elemRng (A : E) : List E → Rng
  | [] => (none, none)
  | .te .elems B (.lit lo) (.lit hi) :: cs => if B.same A then (some (imin lo 0), some (imax hi 0)) else elemRng A cs
  | _ :: cs => elemRng A cs

theorem elemRng_ok {I : Itp} {ρ : List U} (A : E) (i j : Nat) : ∀ pc, Holds I ρ pc → RngOk (elemRng A pc) (((A.den I ρ).l.getD i []).getD j 0)
  | [], _ => .none _
  | c :: cs, h => by
    have ih := elemRng_ok A i j cs (fun d hd => h d (List.mem_cons_of_mem _ hd))
    have hc := h c (List.mem_cons_self ..)
    unfold elemRng
    split
    · simp at *
    · rename_i B lo hi cs' heq
      simp only [List.cons.injEq] at heq
      obtain ⟨rfl, rfl⟩ := heq
      split
      · rename_i hs
        have := E.same_eq hs; subst this
        simp [E.den, TeO.den, List.all_eq_true] at hc
        have key : ((B.den I ρ).l.getD i []).getD j 0 = 0 ∨ (lo ≤ ((B.den I ρ).l.getD i []).getD j 0 ∧ ((B.den I ρ).l.getD i []).getD j 0 ≤ hi) := by
          simp only [List.getD_eq_getElem?_getD]
          cases h1 : (B.den I ρ).l[i]? with
          | none => left; simp
          | some r =>
            cases h2 : r[j]? with
            | none => left; simp [h2]
            | some x =>
              right
              simp [h2]
              have hk := hc r (List.mem_of_getElem? h1) x (List.mem_of_getElem? h2)
              exact ⟨of_decide_eq_true hk.1, of_decide_eq_true hk.2⟩
        constructor
        · intro l hl; simp [imin] at hl; split at hl <;> omega
        · intro l hl; simp [imax] at hl; split at hl <;> omega
      · exact ih
    · rename_i c' cs' _ heq
      simp only [List.cons.injEq] at heq
      obtain ⟨rfl, rfl⟩ := heq
      exact ih

def rngFit (k : IntKind) (p : Rng) : Bool :=
  match p with
  | (some l, some h) => decide (k.min ≤ l) && decide (h ≤ k.max)
  | _ => false

theorem wrap_bounds (k : IntKind) (x : Int) : k.min ≤ k.wrap x ∧ k.wrap x ≤ k.max := by
  cases k <;> simp [IntKind.wrap, IntKind.min, IntKind.max, IntKind.signed, IntKind.bits] <;> (try split) <;> omega

theorem wrap_fit {k : IntKind} {x : Int} (h : k.min ≤ x) (h' : x ≤ k.max) : k.wrap x = x := by
  cases k <;> simp [IntKind.wrap, IntKind.min, IntKind.max, IntKind.signed, IntKind.bits] at * <;> (try split) <;> omega

def mulRng (p q : Rng) : Rng :=
  match p, q with
  | (some a, h), (some b, h') =>
    if 0 ≤ a ∧ 0 ≤ b then (some (a * b), match h, h' with | some x, some y => some (x * y) | _, _ => none) else
      match h, h' with
      | some x, some y => (some (imin (imin (a * b) (a * y)) (imin (x * b) (x * y))), some (imax (imax (a * b) (a * y)) (imax (x * b) (x * y))))
      | _, _ => (none, none)
  | _, _ => (none, none)

theorem imin_le_left (a b : Int) : imin a b ≤ a := by unfold imin; split <;> omega
theorem imin_le_right (a b : Int) : imin a b ≤ b := by unfold imin; split <;> omega
theorem le_imax_left (a b : Int) : a ≤ imax a b := by unfold imax; split <;> omega
theorem le_imax_right (a b : Int) : b ≤ imax a b := by unfold imax; split <;> omega

theorem mul_corner {a x b y u v : Int} (h1 : a ≤ u) (h2 : u ≤ x) (h3 : b ≤ v) (h4 : v ≤ y) :
    imin (imin (a * b) (a * y)) (imin (x * b) (x * y)) ≤ u * v ∧ u * v ≤ imax (imax (a * b) (a * y)) (imax (x * b) (x * y)) := by
  have e1 := imin_le_left (imin (a * b) (a * y)) (imin (x * b) (x * y))
  have e2 := imin_le_right (imin (a * b) (a * y)) (imin (x * b) (x * y))
  have e3 := imin_le_left (a * b) (a * y)
  have e4 := imin_le_right (a * b) (a * y)
  have e5 := imin_le_left (x * b) (x * y)
  have e6 := imin_le_right (x * b) (x * y)
  have f1 := le_imax_left (imax (a * b) (a * y)) (imax (x * b) (x * y))
  have f2 := le_imax_right (imax (a * b) (a * y)) (imax (x * b) (x * y))
  have f3 := le_imax_left (a * b) (a * y)
  have f4 := le_imax_right (a * b) (a * y)
  have f5 := le_imax_left (x * b) (x * y)
  have f6 := le_imax_right (x * b) (x * y)
  -- u*v lies between a*v and x*v; each of those between its corners
  have l1 : a * v ≤ u * v ∨ x * v ≤ u * v := by
    rcases Int.le_total 0 v with hv | hv
    · exact .inl (Int.mul_le_mul_of_nonneg_right h1 hv)
    · exact .inr (Int.mul_le_mul_of_nonpos_right h2 hv)
  have u1 : u * v ≤ a * v ∨ u * v ≤ x * v := by
    rcases Int.le_total 0 v with hv | hv
    · exact .inr (Int.mul_le_mul_of_nonneg_right h2 hv)
    · exact .inl (Int.mul_le_mul_of_nonpos_right h1 hv)
  have lc : ∀ z : Int, (z * b ≤ z * v ∨ z * y ≤ z * v) := by
    intro z
    rcases Int.le_total 0 z with hz | hz
    · exact .inl (Int.mul_le_mul_of_nonneg_left h3 hz)
    · exact .inr (Int.mul_le_mul_of_nonpos_left hz h4)
  have uc : ∀ z : Int, (z * v ≤ z * b ∨ z * v ≤ z * y) := by
    intro z
    rcases Int.le_total 0 z with hz | hz
    · exact .inr (Int.mul_le_mul_of_nonneg_left h4 hz)
    · exact .inl (Int.mul_le_mul_of_nonpos_left hz h3)
  have la := lc a; have lx := lc x; have ua := uc a; have ux := uc x
  constructor <;> omega

theorem mulRng_ok {p q : Rng} {x y : Int} (h : RngOk p x) (h' : RngOk q y) : RngOk (mulRng p q) (x * y) := by
  obtain ⟨p1, p2⟩ := p
  obtain ⟨q1, q2⟩ := q
  cases p1 with
  | none => exact .none _
  | some a =>
    cases q1 with
    | none => exact .none _
    | some b =>
      have ha := h.1 a rfl
      have hb := h'.1 b rfl
      simp only [mulRng]
      split
      · rename_i h0
        constructor
        · intro l hl
          simp at hl; subst hl
          exact Int.mul_le_mul ha hb h0.2 (Int.le_trans h0.1 ha)
        · intro l hl
          cases p2 <;> cases q2 <;> simp at hl
          rename_i c d
          subst hl
          exact Int.mul_le_mul (h.2 c rfl) (h'.2 d rfl) (Int.le_trans h0.2 hb) (Int.le_trans h0.1 (Int.le_trans ha (h.2 c rfl)))
      · cases p2 with
        | none => exact .none _
        | some c =>
          cases q2 with
          | none => exact .none _
          | some d =>
            have hk := mul_corner ha (h.2 c rfl) hb (h'.2 d rfl)
            exact ⟨fun l hl => by simp at hl; subst hl; exact hk.1, fun l hl => by simp at hl; subst hl; exact hk.2⟩

/-- quotient by a number from 1 on -/
def quoRng (p q : Rng) : Rng :=
  match p, q with
  | (some a, h), (some b, _) =>
    if 0 ≤ a ∧ 1 ≤ b then (some 0, h) else
      if 1 ≤ b then
        match h with
        | some x => (some (imin a 0), some (imax x 0))
        | none => (none, none)
      else (none, none)
  | _, _ => (none, none)

theorem tdiv_bounds {x y : Int} (hy : 1 ≤ y) : imin x 0 ≤ x.tdiv y ∧ x.tdiv y ≤ imax x 0 := by
  unfold imin imax
  rcases Int.le_total 0 x with hx | hx
  · have h1 : 0 ≤ x.tdiv y := Int.tdiv_nonneg hx (by omega)
    have h2 : x.tdiv y ≤ x := by rw [Int.tdiv_eq_ediv_of_nonneg hx]; exact Int.ediv_le_self _ hx
    split <;> (try split) <;> omega
  · have h1 : 0 ≤ (-x).tdiv y := Int.tdiv_nonneg (by omega) (by omega)
    have h2 : (-x).tdiv y ≤ -x := by rw [Int.tdiv_eq_ediv_of_nonneg (by omega)]; exact Int.ediv_le_self _ (by omega)
    rw [Int.neg_tdiv] at h1 h2
    split <;> (try split) <;> omega

theorem quoRng_ok {p q : Rng} {x y : Int} (h : RngOk p x) (h' : RngOk q y) : RngOk (quoRng p q) (x.tdiv y) := by
  obtain ⟨p1, p2⟩ := p
  obtain ⟨q1, q2⟩ := q
  cases p1 with
  | none => exact .none _
  | some a =>
    cases q1 with
    | none => exact .none _
    | some b =>
      have ha := h.1 a rfl
      have hb := h'.1 b rfl
      simp only [quoRng]
      split
      · rename_i h0
        have hk := tdiv_bounds (x := x) (y := y) (by omega)
        constructor
        · intro l hl; simp at hl; subst hl; exact Int.tdiv_nonneg (by omega) (by omega)
        · intro l hl
          simp at hl
          have := h.2 l hl
          have := hk.2
          unfold imax at this
          split at this <;> omega
      · split
        · have hk := tdiv_bounds (x := x) (y := y) (by omega)
          cases p2 with
          | none => exact .none _
          | some c =>
            have hc := h.2 c rfl
            have m1 := imin_le_left a 0
            have m2 := imin_le_right a 0
            have m3 := le_imax_left c 0
            have m4 := le_imax_right c 0
            have h5 : imin a 0 ≤ imin x 0 := by unfold imin at *; split <;> split <;> omega
            have h6 : imax x 0 ≤ imax c 0 := by unfold imax at *; split <;> split <;> omega
            exact ⟨fun l hl => by simp at hl; omega, fun l hl => by simp at hl; omega⟩
        · exact .none _

def remRng (p q : Rng) : Rng :=
  match q with
  | (some b, some c) =>
    if 1 ≤ b then
      match p with
      | (some a, _) => if 0 ≤ a then (some 0, some (c - 1)) else (some (1 - c), some (c - 1))
      | _ => (some (1 - c), some (c - 1))
    else (none, none)
  | _ => (none, none)

theorem tmod_bounds {x y : Int} (hy : 1 ≤ y) : 1 - y ≤ x.tmod y ∧ x.tmod y ≤ y - 1 ∧ (0 ≤ x → 0 ≤ x.tmod y) := by
  have h1 := Int.tmod_lt_of_pos x (show 0 < y by omega)
  have h2 : -y < x.tmod y := by
    have := Int.lt_tmod_of_pos x (show 0 < y by omega)
    omega
  exact ⟨by omega, by omega, fun h => Int.tmod_nonneg _ h⟩

theorem remRng_ok {p q : Rng} {x y : Int} (h : RngOk p x) (h' : RngOk q y) : RngOk (remRng p q) (x.tmod y) := by
  obtain ⟨p1, p2⟩ := p
  obtain ⟨q1, q2⟩ := q
  cases q1 with
  | none => exact .none _
  | some b =>
    cases q2 with
    | none => exact .none _
    | some c =>
      have hb := h'.1 b rfl
      have hc := h'.2 c rfl
      simp only [remRng]
      split
      · have hk := tmod_bounds (x := x) (y := y) (by omega)
        cases p1 with
        | none => exact ⟨fun l hl => by simp at hl; omega, fun l hl => by simp at hl; omega⟩
        | some a =>
          have ha := h.1 a rfl
          simp only
          split
          · exact ⟨fun l hl => by simp at hl; subst hl; exact hk.2.2 (by omega), fun l hl => by simp at hl; omega⟩
          · exact ⟨fun l hl => by simp at hl; omega, fun l hl => by simp at hl; omega⟩
      · exact .none _

def bitRng (op : BinOp) (k : IntKind) (p : Rng) : Rng :=
  match op with
  | .and | .or | .xor | .andNot | .shl => (some k.min, some k.max)
  | .shr => match p with
    | (some a, h) => if 0 ≤ a then (some 0, h) else (none, none)
    | _ => (none, none)
  | _ => (none, none)

theorem bitRng_ok {op : BinOp} {k : IntKind} {p : Rng} {x y : Int} (h : RngOk p x) : RngOk (bitRng op k p) (bitsOp op k x y) := by
  have hw : ∀ z, RngOk (some k.min, some k.max) (k.wrap z) := fun z =>
    ⟨fun l hl => by simp at hl; subst hl; exact (wrap_bounds k z).1, fun l hl => by simp at hl; subst hl; exact (wrap_bounds k z).2⟩
  unfold bitRng bitsOp
  split <;> try exact hw _
  · obtain ⟨p1, p2⟩ := p
    cases p1 with
    | none => exact .none _
    | some a =>
      have ha := h.1 a rfl
      simp only
      split
      · have hx : 0 ≤ x := by omega
        have hd : (0 : Int) < 2 ^ (Nat.min y.toNat k.bits) := Int.pow_pos (by decide)
        constructor
        · intro l hl; simp at hl; subst hl; exact Int.fdiv_nonneg hx (by omega)
        · intro l hl
          simp at hl
          have := h.2 l hl
          have h2 : x.fdiv (2 ^ (Nat.min y.toNat k.bits)) ≤ x := by
            rw [Int.fdiv_eq_ediv_of_nonneg _ (by omega)]; exact Int.ediv_le_self _ hx
          omega
      · exact .none _
  · exact .none _

/-- The range of a number, as far as it is seen. -/
def rngS (pc : List E) (f : E → Rng) : E → Rng
  | .lit n => (some n, some n)
  | .un .neg a => let p := f a; (oneg p.2, oneg p.1)
  | .un .len _ => (some 0, none)
  | .un (.wrap k) a => let p := f a; if rngFit k p then p else (some k.min, some k.max)
  | .un (.tab l) _ => (some (l.foldl imin 0), some (l.foldl imax 0))
  | .bi .add a b => let p := f a; let q := f b; (oadd p.1 q.1, oadd p.2 q.2)
  | .bi .sub a b => let p := f a; let q := f b; (oadd p.1 (oneg q.2), oadd p.2 (oneg q.1))
  | .bi .mul a b => mulRng (f a) (f b)
  | .bi .quo a b => quoRng (f a) (f b)
  | .bi .rem a b => remRng (f a) (f b)
  | .bi .min a b => let p := f a; let q := f b; (owide imin p.1 q.1, omin p.2 q.2)
  | .bi .max a b => let p := f a; let q := f b; (omax p.1 q.1, owide imax p.2 q.2)
  | .bi (.bit op k) a _ => bitRng op k (f a)
  | .bi .find _ _ => (some 0, none)
  | .te .ite _ a b => let p := f a; let q := f b; (owide imin p.1 q.1, owide imax p.2 q.2)
  | .te .get A _ _ => elemRng A pc
  | _ => (none, none)

theorem foldl_imin : ∀ (l : List Int) (a : Int), l.foldl imin a ≤ a
  | [], a => Int.le_refl a
  | x :: l, a => Int.le_trans (foldl_imin l (imin a x)) (imin_le_left a x)
theorem foldl_imax : ∀ (l : List Int) (a : Int), a ≤ l.foldl imax a
  | [], a => Int.le_refl a
  | x :: l, a => Int.le_trans (le_imax_left a x) (foldl_imax l (imax a x))
theorem foldl_imin_mem : ∀ (l : List Int) (a : Int) (n : Nat), n < l.length → l.foldl imin a ≤ l.getD n 0
  | [], _, n, h => by simp at h
  | x :: l, a, 0, _ => Int.le_trans (foldl_imin l (imin a x)) (imin_le_right a x)
  | x :: l, a, n + 1, h => by
    rw [List.getD_cons_succ]
    exact foldl_imin_mem l (imin a x) n (by simpa using h)
theorem foldl_imax_mem : ∀ (l : List Int) (a : Int) (n : Nat), n < l.length → l.getD n 0 ≤ l.foldl imax a
  | [], _, n, h => by simp at h
  | x :: l, a, 0, _ => Int.le_trans (le_imax_right a x) (foldl_imax l (imax a x))
  | x :: l, a, n + 1, h => by
    rw [List.getD_cons_succ]
    exact foldl_imax_mem l (imax a x) n (by simpa using h)
theorem tab_min (l : List Int) (n : Nat) : l.foldl imin 0 ≤ l.getD n 0 := by
  by_cases h : n < l.length
  · exact foldl_imin_mem l 0 n h
  · rw [List.getD_eq_getElem?_getD, List.getElem?_eq_none (by omega)]; exact foldl_imin l 0
theorem tab_max (l : List Int) (n : Nat) : l.getD n 0 ≤ l.foldl imax 0 := by
  by_cases h : n < l.length
  · exact foldl_imax_mem l 0 n h
  · rw [List.getD_eq_getElem?_getD, List.getElem?_eq_none (by omega)]; exact foldl_imax l 0

theorem rngS_ok {I : Itp} {ρ : List U} {pc : List E} (hpc : Holds I ρ pc) {f : E → Rng} (hf : ∀ e, RngOk (f e) (e.den I ρ).i) (e : E) :
    RngOk (rngS pc f e) (e.den I ρ).i := by
  unfold rngS
  split <;> (try simp only [E.den, UnO.den, BiO.den, TeO.den])
  · exact ⟨fun l hl => by simp at hl; omega, fun l hl => by simp at hl; omega⟩
  · exact (hf _).neg
  · exact ⟨fun l hl => by simp at hl; omega, fun l hl => by simp at hl⟩
  · rename_i k a
    have ha := hf a
    split
    · rename_i hfit
      revert ha hfit
      generalize f a = p
      obtain ⟨p1, p2⟩ := p
      intro ha hfit
      cases p1 with
      | none => simp [rngFit] at hfit
      | some l =>
        cases p2 with
        | none => simp [rngFit] at hfit
        | some h =>
          simp [rngFit] at hfit
          rw [wrap_fit (Int.le_trans hfit.1 (ha.1 l rfl)) (Int.le_trans (ha.2 h rfl) hfit.2)]
          exact ha
    · exact ⟨fun l hl => by simp at hl; subst hl; exact (wrap_bounds _ _).1, fun l hl => by simp at hl; subst hl; exact (wrap_bounds _ _).2⟩
  · rename_i t a
    exact ⟨fun l hl => by simp at hl; subst hl; exact tab_min t _, fun l hl => by simp at hl; subst hl; exact tab_max t _⟩
  · exact (hf _).add (hf _)
  · rw [Int.sub_eq_add_neg]; exact (hf _).add ((hf _).neg)
  · exact mulRng_ok (hf _) (hf _)
  · exact quoRng_ok (hf _) (hf _)
  · exact remRng_ok (hf _) (hf _)
  · rename_i a b
    have hw := (hf a).wide (hf b) (z := if (b.den I ρ).i < (a.den I ρ).i then (b.den I ρ).i else (a.den I ρ).i) (by split <;> simp)
    refine ⟨hw.1, fun l hl => ?_⟩
    have ha := (hf a).2
    have hb := (hf b).2
    revert hl ha hb
    generalize (f a).2 = p2
    generalize (f b).2 = q2
    intro hl ha hb
    cases p2 <;> cases q2 <;> simp [omin] at hl ha hb <;> (try split at hl) <;> split <;> omega
  · rename_i a b
    have hw := (hf a).wide (hf b) (z := if (b.den I ρ).i > (a.den I ρ).i then (b.den I ρ).i else (a.den I ρ).i) (by split <;> simp)
    refine ⟨fun l hl => ?_, hw.2⟩
    have ha := (hf a).1
    have hb := (hf b).1
    revert hl ha hb
    generalize (f a).1 = p2
    generalize (f b).1 = q2
    intro hl ha hb
    cases p2 <;> cases q2 <;> simp [omax] at hl ha hb <;> (try split at hl) <;> split <;> omega
  · exact bitRng_ok (hf _)
  · exact ⟨fun l hl => by simp at hl; omega, fun l hl => by simp at hl⟩
  · rename_i c a b
    split
    · exact (hf a).wide (hf b) (.inl rfl)
    · exact (hf a).wide (hf b) (.inr rfl)
  · exact elemRng_ok _ _ _ pc hpc
  · exact .none _

def rng (pc : List E) : Nat → E → Rng
  | 0, e => match e with | .lit n => (some n, some n) | _ => (none, none)
  | n + 1, e =>
    match e with
    | .lit v => (some v, some v)
    | _ => let p := rngS pc (rng pc n) e; let q := factsRng (rng pc n) e pc; (omax p.1 q.1, omin p.2 q.2)

theorem rng_ok {I : Itp} {ρ : List U} {pc : List E} (hpc : Holds I ρ pc) : ∀ (n : Nat) (e : E), RngOk (rng pc n e) (e.den I ρ).i
  | 0, e => by
    unfold rng
    split
    · exact ⟨fun l hl => by simp at hl; simp [E.den]; omega, fun l hl => by simp at hl; simp [E.den]; omega⟩
    · exact .none _
  | n + 1, e => by
    unfold rng
    split
    · exact ⟨fun l hl => by simp at hl; simp [E.den]; omega, fun l hl => by simp at hl; simp [E.den]; omega⟩
    · exact RngOk.inter (rngS_ok hpc (rng_ok hpc n) e) (factsRng_ok (rng_ok hpc n) e pc hpc)

/-- How deep ranges are looked for. -/
def rngFuel : Nat := 4

/-- A number with its constant struck off. -/
def base : E → E × Int
  | .bi .add a (.lit n) => (a, n)
  | .lit n => (.lit 0, n)
  | e => (e, 0)

theorem base_ok (I : Itp) (ρ : List U) (e : E) : (e.den I ρ).i = ((base e).1.den I ρ).i + (base e).2 := by
  unfold base
  split <;> simp [E.den, BiO.den]

/-- x - y ≤ d, as far as it is seen. -/
def diffLe (pc : List E) : Nat → E → E → Int → Bool
  | 0, x, y, d => x.same y && decide (0 ≤ d)
  | n + 1, x, y, d =>
    (x.same y && decide (0 ≤ d)) ||
    pc.any fun c =>
      match c with
      | .bi .le a b => let p := base a; let q := base b; p.1.same x && diffLe pc n q.1 y (d - (q.2 - p.2))
      | .bi .lt a b => let p := base a; let q := base b; p.1.same x && diffLe pc n q.1 y (d - (q.2 - p.2 - 1))
      | .bi .eq a b => let p := base a; let q := base b; (p.1.same x && diffLe pc n q.1 y (d - (q.2 - p.2))) || (q.1.same x && diffLe pc n p.1 y (d - (p.2 - q.2)))
      | _ => false

theorem diffLe_ok {I : Itp} {ρ : List U} {pc : List E} (hpc : Holds I ρ pc) : ∀ (n : Nat) (x y : E) (d : Int), diffLe pc n x y d = true → (x.den I ρ).i - (y.den I ρ).i ≤ d
  | 0, x, y, d, h => by
    simp [diffLe] at h
    rw [E.same_eq h.1]; omega
  | n + 1, x, y, d, h => by
    simp only [diffLe, Bool.or_eq_true, Bool.and_eq_true, decide_eq_true_eq, List.any_eq_true] at h
    rcases h with h | ⟨c, hc, h⟩
    · rw [E.same_eq h.1]; omega
    · have hb := hpc c hc
      split at h
      · rename_i a b
        simp only [Bool.and_eq_true] at h
        have h1 := base_ok I ρ a
        have h2 := base_ok I ρ b
        have h3 := diffLe_ok hpc n _ _ _ h.2
        rw [← E.same_eq h.1]
        simp [E.den, BiO.den] at hb
        omega
      · rename_i a b
        simp only [Bool.and_eq_true] at h
        have h1 := base_ok I ρ a
        have h2 := base_ok I ρ b
        have h3 := diffLe_ok hpc n _ _ _ h.2
        rw [← E.same_eq h.1]
        simp [E.den, BiO.den] at hb
        omega
      · rename_i a b
        simp only [Bool.and_eq_true, Bool.or_eq_true] at h
        have h1 := base_ok I ρ a
        have h2 := base_ok I ρ b
        simp [E.den, BiO.den] at hb
        rcases h with h | h
        · have h3 := diffLe_ok hpc n _ _ _ h.2
          rw [← E.same_eq h.1]; omega
        · have h3 := diffLe_ok hpc n _ _ _ h.2
          rw [← E.same_eq h.1]; omega
      · simp at h

def oleq : Option Int → Option Int → Bool
  | some a, some b => decide (a ≤ b)
  | _, _ => false
theorem oleq_ok {p q : Option Int} (h : oleq p q = true) : ∃ a b, p = some a ∧ q = some b ∧ a ≤ b := by
  cases p <;> cases q <;> simp [oleq] at h
  exact ⟨_, _, rfl, rfl, h⟩

/-- a ≤ b: yes, no, or not seen. -/
def decLe (pc : List E) (a b : E) : Option Bool :=
  match a, b with
  | .lit x, .lit y => some (decide (x ≤ y))
  | _, _ =>
    if oleq (rng pc rngFuel a).2 (rng pc rngFuel b).1 then some true else
    if oleq (oadd (rng pc rngFuel b).2 (some 1)) (rng pc rngFuel a).1 then some false else
    if diffLe pc 3 (base a).1 (base b).1 ((base b).2 - (base a).2) then some true else
    if diffLe pc 3 (base b).1 (base a).1 ((base a).2 - (base b).2 - 1) then some false else none

theorem decLe_ok {I : Itp} {ρ : List U} {pc : List E} (hpc : Holds I ρ pc) {a b : E} {r : Bool} (h : decLe pc a b = some r) :
    decide ((a.den I ρ).i ≤ (b.den I ρ).i) = r := by
  unfold decLe at h
  split at h
  · exact Option.some.inj h
  · have ha := rng_ok hpc rngFuel a
    have hb := rng_ok hpc rngFuel b
    have h1 := base_ok I ρ a
    have h2 := base_ok I ρ b
    split at h
    · rename_i hc
      obtain ⟨x, y, hx, hy, hxy⟩ := oleq_ok hc
      have := ha.2 _ hx
      have := hb.1 _ hy
      simp at h; subst h; simp; omega
    · split at h
      · rename_i hc
        obtain ⟨x, y, hx, hy, hxy⟩ := oleq_ok hc
        have := ha.1 _ hy
        cases hq : (rng pc rngFuel b).2 with
        | none => simp [hq, oadd] at hx
        | some z =>
          have := hb.2 _ hq
          simp [hq, oadd] at hx
          simp at h; subst h; simp; omega
      · split at h
        · rename_i hd
          have := diffLe_ok hpc _ _ _ _ hd
          simp at h; subst h
          simp; omega
        · split at h
          · rename_i hd
            have := diffLe_ok hpc _ _ _ _ hd
            simp at h; subst h
            simp; omega
          · simp at h

def decLt (pc : List E) (a b : E) : Option Bool := (decLe pc b a).map (!·)

theorem decLt_ok {I : Itp} {ρ : List U} {pc : List E} (hpc : Holds I ρ pc) {a b : E} {r : Bool} (h : decLt pc a b = some r) :
    decide ((a.den I ρ).i < (b.den I ρ).i) = r := by
  unfold decLt at h
  rw [Option.map_eq_some_iff] at h
  obtain ⟨x, hx, rfl⟩ := h
  have := decLe_ok hpc hx
  rw [← this]
  by_cases h1 : (b.den I ρ).i ≤ (a.den I ρ).i
  · have h2 : ¬ (a.den I ρ).i < (b.den I ρ).i := by omega
    simp [h1, h2]
  · have h2 : (a.den I ρ).i < (b.den I ρ).i := by omega
    simp [h1, h2]

def both : Option Bool → Option Bool → Option Bool
  | some false, _ => some false
  | _, some false => some false
  | some true, some true => some true
  | _, _ => none
theorem both_ok {p q : Option Bool} {r x y : Bool} (hp : ∀ a, p = some a → x = a) (hq : ∀ a, q = some a → y = a) (h : both p q = some r) : (x && y) = r := by
  cases p with
  | none => cases q with
    | none => simp [both] at h
    | some b => cases b <;> simp [both] at h; simp [hq _ rfl, h]
  | some a => cases a with
    | false => simp [both] at h; simp [hp _ rfl, h]
    | true => cases q with
      | none => simp [both] at h
      | some b => cases b <;> simp [both] at h <;> simp [hp _ rfl, hq _ rfl, h]

def decEq' (pc : List E) (a b : E) : Option Bool :=
  match a, b with
  | .lit x, .lit y => some (x == y)
  | _, _ => if a.same b then some true else both (decLe pc a b) (decLe pc b a)

theorem decEq'_ok {I : Itp} {ρ : List U} {pc : List E} (hpc : Holds I ρ pc) {a b : E} {r : Bool} (h : decEq' pc a b = some r) :
    ((a.den I ρ).i == (b.den I ρ).i) = r := by
  unfold decEq' at h
  split at h
  · simpa [E.den] using h
  · split at h
    · rename_i hs
      simp at h; subst h
      rw [E.same_eq hs]; simp
    · have := both_ok (fun _ h => decLe_ok hpc h) (fun _ h => decLe_ok hpc h) h
      rw [← this, Bool.eq_iff_iff]
      simp; omega

/-- The opposite of a test. -/
def mkNot : E → E
  | .bl b => .bl (!b)
  | .un .not a => .un .not (.un .not a)
  | .bi .lt a b => .bi .le b a
  | .bi .le a b => .bi .lt b a
  | e => .un .not e

theorem mkNot_ok (I : Itp) (ρ : List U) (e : E) : ((mkNot e).den I ρ).b = !(e.den I ρ).b := by
  unfold mkNot
  split <;> simp [E.den, BiO.den, UnO.den] <;> rw [Bool.eq_iff_iff] <;> simp

def known (pc : List E) (c : E) : Option Bool :=
  if pc.any (E.same c) then some true else
  if pc.any (E.same (mkNot c)) then some false else none

theorem known_ok {I : Itp} {ρ : List U} {pc : List E} (hpc : Holds I ρ pc) {c : E} {r : Bool} (h : known pc c = some r) : (c.den I ρ).b = r := by
  unfold known at h
  split at h
  · rename_i hs
    obtain ⟨d, hd, he⟩ := List.any_eq_true.1 hs
    have := E.same_eq he; subst this
    simp at h; subst h
    exact hpc _ hd
  · split at h
    · rename_i hs
      obtain ⟨d, hd, he⟩ := List.any_eq_true.1 hs
      have := E.same_eq he
      have h2 := hpc _ hd
      rw [← this, mkNot_ok] at h2
      simp at h; subst h
      simpa using h2
    · simp at h

/-- A test made simpler: true, false, or itself. -/
def decC (pc : List E) : E → Option Bool
  | .bl b => some b
  | .un .not a => (decC pc a).map (!·)
  | .bi .and a b => (both (decC pc a) (decC pc b)).or (known pc (.bi .and a b))
  | .bi .or a b => ((both ((decC pc a).map (!·)) ((decC pc b).map (!·))).map (!·)).or (known pc (.bi .or a b))
  | .bi .lt a b => (decLt pc a b).or (known pc (.bi .lt a b))
  | .bi .le a b => (decLe pc a b).or (known pc (.bi .le a b))
  | .bi .eq a b => (decEq' pc a b).or (known pc (.bi .eq a b))
  | e => known pc e

theorem decC_ok {I : Itp} {ρ : List U} {pc : List E} (hpc : Holds I ρ pc) : ∀ (c : E) (r : Bool), decC pc c = some r → (c.den I ρ).b = r := by
  intro c
  induction c with
  | bl b => intro r h; simp [decC] at h; simp [E.den, h]
  | lit n => intro r h; exact known_ok hpc h
  | nil => intro r h; exact known_ok hpc h
  | var i => intro r h; exact known_ok hpc h
  | un o a ih =>
    intro r h
    cases o with
    | not =>
      simp only [decC, Option.map_eq_some_iff] at h
      obtain ⟨x, hx, rfl⟩ := h
      simp [E.den, UnO.den, ih _ hx]
    | _ => exact known_ok hpc h
  | bi o a b iha ihb =>
    intro r h
    cases o with
    | and =>
      simp only [decC, Option.or_eq_some_iff] at h
      rcases h with h | ⟨_, h⟩
      · exact both_ok iha ihb h
      · exact known_ok hpc h
    | or =>
      simp only [decC, Option.or_eq_some_iff, Option.map_eq_some_iff] at h
      rcases h with h | ⟨_, h⟩
      rotate_left
      · exact known_ok hpc h
      obtain ⟨x, hx, rfl⟩ := h
      have := both_ok (x := !(a.den I ρ).b) (y := !(b.den I ρ).b) (fun r hr => by obtain ⟨z, hz, rfl⟩ := Option.map_eq_some_iff.1 hr; rw [iha z hz]) (fun r hr => by obtain ⟨z, hz, rfl⟩ := Option.map_eq_some_iff.1 hr; rw [ihb z hz]) hx
      rw [← this]
      simp [E.den, BiO.den]
    | lt =>
      simp only [decC, Option.or_eq_some_iff] at h
      rcases h with h | ⟨_, h⟩
      · simpa [E.den, BiO.den] using decLt_ok hpc h
      · exact known_ok hpc h
    | le =>
      simp only [decC, Option.or_eq_some_iff] at h
      rcases h with h | ⟨_, h⟩
      · simpa [E.den, BiO.den] using decLe_ok hpc h
      · exact known_ok hpc h
    | eq =>
      simp only [decC, Option.or_eq_some_iff] at h
      rcases h with h | ⟨_, h⟩
      · simpa [E.den, BiO.den] using decEq'_ok hpc h
      · exact known_ok hpc h
    | _ => exact known_ok hpc h
  | te o a b c _ _ _ => intro r h; exact known_ok hpc h
  | se A i j x _ _ _ _ => intro r h; exact known_ok hpc h
  | fn1 f a _ => intro r h; exact known_ok hpc h
  | fn2 f a b _ _ => intro r h; exact known_ok hpc h
  | fn3 f a b c _ _ _ => intro r h; exact known_ok hpc h
  | fn4 f a b c d _ _ _ _ => intro r h; exact known_ok hpc h

/-- What is known behind a test that was true. -/
def assume : E → List E
  | .bi .and a b => assume a ++ assume b
  | e => [e]

theorem assume_ok {I : Itp} {ρ : List U} : ∀ (c : E), (c.den I ρ).b = true → Holds I ρ (assume c) := by
  intro c
  induction c with
  | bi o a b iha ihb =>
    intro h
    cases o with
    | and =>
      simp [E.den, BiO.den] at h
      exact (iha h.1).append (ihb h.2)
    | _ => exact Holds.cons h (fun _ h => by simp at h)
  | _ => intro h; exact Holds.cons h (fun _ h => by simp at h)

/-- What is known behind a test that was false. -/
def deny : E → List E
  | .bi .or a b => deny a ++ deny b
  | .un .not a => assume a
  | e => [mkNot e]

theorem deny_ok {I : Itp} {ρ : List U} : ∀ (c : E), (c.den I ρ).b = false → Holds I ρ (deny c) := by
  intro c
  have dflt : ∀ e : E, (e.den I ρ).b = false → Holds I ρ [mkNot e] := fun e h => Holds.cons (by rw [mkNot_ok, h]; rfl) (fun _ h => by simp at h)
  induction c with
  | bi o a b iha ihb =>
    intro h
    cases o with
    | or =>
      simp [E.den, BiO.den] at h
      exact (iha h.1).append (ihb h.2)
    | _ => exact dflt _ h
  | un o a ih =>
    intro h
    cases o with
    | not => simp [E.den, UnO.den] at h; exact assume_ok a h
    | _ => exact dflt _ h
  | _ => intro h; exact dflt _ h

end Go.Sx

/- The symbolic executor, part C: expressions that make themselves simpler as they are built. -/
namespace Go.Sx
open Go

/-- e + n -/
def plus (e : E) (n : Int) : E :=
  match e with
  | .lit x => .lit (x + n)
  | .bi .add a (.lit x) => if x + n = 0 then a else .bi .add a (.lit (x + n))
  | e => if n = 0 then e else .bi .add e (.lit n)

theorem plus_ok (I : Itp) (ρ : List U) (e : E) (n : Int) : ((plus e n).den I ρ) = { i := (e.den I ρ).i + n } ∨ (((plus e n).den I ρ) = (e.den I ρ) ∧ n = 0) ∨ ((plus e n).den I ρ).i = (e.den I ρ).i + n := by
  unfold plus
  split
  · left; simp [E.den]
  · split
    · right; right; simp [E.den, BiO.den]; omega
    · left; simp [E.den, BiO.den]; omega
  · split
    · right; left; simp_all
    · left; simp [E.den, BiO.den]

theorem plus_i (I : Itp) (ρ : List U) (e : E) (n : Int) : ((plus e n).den I ρ).i = (e.den I ρ).i + n := by
  rcases plus_ok I ρ e n with h | ⟨h, h0⟩ | h
  · rw [h]
  · rw [h, h0]; simp
  · exact h

def mkAdd (a b : E) : E :=
  match a, b with
  | .lit x, b => plus b x
  | a, .lit y => plus a y
  | a, b => let p := base a; let q := base b; if p.2 = 0 && q.2 = 0 then .bi .add a b else plus (.bi .add p.1 q.1) (p.2 + q.2)

theorem mkAdd_i (I : Itp) (ρ : List U) (a b : E) : ((mkAdd a b).den I ρ).i = (a.den I ρ).i + (b.den I ρ).i := by
  unfold mkAdd
  split
  · rw [plus_i]; simp [E.den]; omega
  · rw [plus_i]; simp [E.den]
  · simp only
    split
    · simp [E.den, BiO.den]
    · rw [plus_i]
      have h1 := base_ok I ρ a
      have h2 := base_ok I ρ b
      simp [E.den, BiO.den]; omega

def mkNeg : E → E
  | .lit n => .lit (-n)
  | .un .neg a => if True then .un .neg (.un .neg a) else a
  | e => .un .neg e

theorem mkNeg_i (I : Itp) (ρ : List U) (a : E) : ((mkNeg a).den I ρ).i = -(a.den I ρ).i := by
  unfold mkNeg
  split <;> simp [E.den, UnO.den]

def mkSub (a b : E) : E :=
  match b with
  | .lit y => plus a (-y)
  | b =>
    let p := base a
    let q := base b
    if p.1.same q.1 then .lit (p.2 - q.2) else
    match p.1 with
    | .bi .add x y => if x.same q.1 then plus y (p.2 - q.2) else if y.same q.1 then plus x (p.2 - q.2) else plus (.bi .sub p.1 q.1) (p.2 - q.2)
    | _ => plus (.bi .sub p.1 q.1) (p.2 - q.2)

theorem mkSub_i (I : Itp) (ρ : List U) (a b : E) : ((mkSub a b).den I ρ).i = (a.den I ρ).i - (b.den I ρ).i := by
  unfold mkSub
  split
  · rw [plus_i]; simp [E.den]; omega
  · have h1 := base_ok I ρ a
    have h2 := base_ok I ρ b
    simp only
    split
    · rename_i hs
      rw [E.same_eq hs] at h1
      simp [E.den]; omega
    · split
      · rename_i x y hp
        rw [hp] at h1
        simp only [E.den, BiO.den] at h1
        split
        · rename_i hs
          have e := E.same_eq hs
          rw [plus_i]; rw [← e] at h2; omega
        · split
          · rename_i hs
            have e := E.same_eq hs
            rw [plus_i]; rw [← e] at h2; omega
          · rw [plus_i]; simp only [hp, E.den, BiO.den]; omega
      · rw [plus_i]; simp only [E.den, BiO.den]; omega

def mkMul (a b : E) : E :=
  match a, b with
  | .lit x, .lit y => .lit (x * y)
  | .lit x, b => if x = 0 then .lit 0 else if x = 1 then b else .bi .mul (.lit x) b
  | a, .lit y => if y = 0 then .lit 0 else if y = 1 then a else .bi .mul a (.lit y)
  | a, b => .bi .mul a b

theorem mkMul_i (I : Itp) (ρ : List U) (a b : E) : ((mkMul a b).den I ρ).i = (a.den I ρ).i * (b.den I ρ).i := by
  unfold mkMul
  split
  · simp [E.den]
  · split
    · subst_vars; simp [E.den]
    · split
      · subst_vars; simp [E.den]
      · simp [E.den, BiO.den]
  · split
    · subst_vars; simp [E.den]
    · split
      · subst_vars; simp [E.den]
      · simp [E.den, BiO.den]
  · simp [E.den, BiO.den]

def mkQuo (a b : E) : E :=
  match a, b with
  | .lit x, .lit y => .lit (x.tdiv y)
  | a, .lit y => if y = 1 then a else .bi .quo a (.lit y)
  | a, b => .bi .quo a b

theorem mkQuo_i (I : Itp) (ρ : List U) (a b : E) : ((mkQuo a b).den I ρ).i = (a.den I ρ).i.tdiv (b.den I ρ).i := by
  unfold mkQuo
  split
  · simp [E.den]
  · split
    · subst_vars; simp [E.den]
    · simp [E.den, BiO.den]
  · simp [E.den, BiO.den]

def mkRem (pc : List E) (a b : E) : E :=
  match a, b with
  | .lit x, .lit y => .lit (x.tmod y)
  | a, b => if decLe pc (.lit 0) a = some true && decLt pc a b = some true then a else .bi .rem a b

theorem mkRem_i {I : Itp} {ρ : List U} {pc : List E} (hpc : Holds I ρ pc) (a b : E) : ((mkRem pc a b).den I ρ).i = (a.den I ρ).i.tmod (b.den I ρ).i := by
  unfold mkRem
  split
  · simp [E.den]
  · split
    · rename_i h
      simp only [Bool.and_eq_true, decide_eq_true_eq] at h
      have h1 := of_decide_eq_true (decLe_ok hpc h.1)
      have h2 := of_decide_eq_true (decLt_ok hpc h.2)
      simp only [E.den] at h1
      rw [Int.tmod_eq_of_lt h1 h2]
    · simp [E.den, BiO.den]

def mkWrap (pc : List E) (k : IntKind) (e : E) : E :=
  match e with
  | .lit n => .lit (k.wrap n)
  | e => if rngFit k (rng pc rngFuel e) then e else .un (.wrap k) e

theorem mkWrap_i {I : Itp} {ρ : List U} {pc : List E} (hpc : Holds I ρ pc) (k : IntKind) (e : E) : ((mkWrap pc k e).den I ρ).i = k.wrap (e.den I ρ).i := by
  unfold mkWrap
  split
  · simp [E.den]
  · split
    · rename_i h
      have := rng_ok hpc rngFuel e
      revert h this
      generalize rng pc rngFuel e = p
      obtain ⟨p1, p2⟩ := p
      intro h this
      cases p1 <;> cases p2 <;> simp [rngFit] at h
      rw [wrap_fit (Int.le_trans h.1 (this.1 _ rfl)) (Int.le_trans (this.2 _ rfl) h.2)]
    · simp [E.den, UnO.den]

def mkMin (pc : List E) (a b : E) : E :=
  match decLe pc a b with
  | some true => a
  | some false => b
  | none => .bi .min a b

theorem mkMin_i {I : Itp} {ρ : List U} {pc : List E} (hpc : Holds I ρ pc) (a b : E) : ((mkMin pc a b).den I ρ).i = if (b.den I ρ).i < (a.den I ρ).i then (b.den I ρ).i else (a.den I ρ).i := by
  unfold mkMin
  split
  · rename_i h; have := of_decide_eq_true (decLe_ok hpc h); rw [if_neg (by omega)]
  · rename_i h; have := of_decide_eq_false (decLe_ok hpc h); rw [if_pos (by omega)]
  · simp [E.den, BiO.den]

def mkMax (pc : List E) (a b : E) : E :=
  match decLe pc b a with
  | some true => a
  | some false => b
  | none => .bi .max a b

theorem mkMax_i {I : Itp} {ρ : List U} {pc : List E} (hpc : Holds I ρ pc) (a b : E) : ((mkMax pc a b).den I ρ).i = if (b.den I ρ).i > (a.den I ρ).i then (b.den I ρ).i else (a.den I ρ).i := by
  unfold mkMax
  split
  · rename_i h; have := of_decide_eq_true (decLe_ok hpc h); rw [if_neg (by omega)]
  · rename_i h; have := of_decide_eq_false (decLe_ok hpc h); rw [if_pos (by omega)]
  · simp [E.den, BiO.den]

/-- A test, decided where it can be. -/
def mkC (pc : List E) (c : E) : E :=
  match decC pc c with
  | some b => .bl b
  | none => c

theorem mkC_b {I : Itp} {ρ : List U} {pc : List E} (hpc : Holds I ρ pc) (c : E) : ((mkC pc c).den I ρ).b = (c.den I ρ).b := by
  unfold mkC
  split
  · rename_i h; rw [decC_ok hpc _ _ h]; rfl
  · rfl

def mkIte (pc : List E) (c a b : E) : E :=
  match decC pc c with
  | some true => a
  | some false => b
  | none => if a.same b then a else
    match a, b with
    | .bl true, .bl false => c
    | _, _ => .te .ite c a b

theorem mkIte_ok {I : Itp} {ρ : List U} {pc : List E} (hpc : Holds I ρ pc) (c a b : E) :
    ((mkIte pc c a b).den I ρ).b = ((if (c.den I ρ).b then a else b).den I ρ).b ∧
    ((∀ x y, ¬ (a = .bl x ∧ b = .bl y)) → (mkIte pc c a b).den I ρ = (if (c.den I ρ).b then a else b).den I ρ) := by
  unfold mkIte
  split
  · rename_i h; have := decC_ok hpc _ _ h; simp [this]
  · rename_i h; have := decC_ok hpc _ _ h; simp [this]
  · split
    · rename_i hs; have := E.same_eq hs; subst this; simp
    · split
      · refine ⟨?_, fun h => (h _ _ ⟨rfl, rfl⟩).elim⟩
        cases h : (c.den I ρ).b <;> simp [E.den]
      · cases h : (c.den I ρ).b <;> simp [E.den, TeO.den, h]

/-- Choose between numbers. -/
def mkIteI (pc : List E) (c a b : E) : E :=
  match decC pc c with
  | some true => a
  | some false => b
  | none => if a.same b then a else .te .ite c a b

theorem mkIteI_ok {I : Itp} {ρ : List U} {pc : List E} (hpc : Holds I ρ pc) (c a b : E) :
    (mkIteI pc c a b).den I ρ = (if (c.den I ρ).b then a else b).den I ρ := by
  unfold mkIteI
  split
  · rename_i h; have := decC_ok hpc _ _ h; simp [this]
  · rename_i h; have := decC_ok hpc _ _ h; simp [this]
  · split
    · rename_i hs; have := E.same_eq hs; subst this; simp
    · cases h : (c.den I ρ).b <;> simp [E.den, TeO.den, h]

/-! ### lists -/

def mkSnoc : E → E → E
  | .nil, r => .bi .row r .nil
  | .bi .row a b, r => .bi .row a (mkSnoc b r)
  | A, r => .bi .snoc A r

theorem mkSnoc_l (I : Itp) (ρ : List U) : ∀ (A r : E), ((mkSnoc A r).den I ρ).l = (A.den I ρ).l ++ [(r.den I ρ).r] := by
  intro A
  induction A with
  | bi o a b _ ihb =>
    intro r
    cases o <;> simp [mkSnoc, E.den, BiO.den, ihb]
  | _ => intro r; simp [mkSnoc, E.den, BiO.den]

def app1 (A B : E) : E :=
  match B with
  | .nil => A
  | .bi .row a .nil => .bi .snoc A a
  | B => .bi .app A B

theorem app1_l (I : Itp) (ρ : List U) (A B : E) : ((app1 A B).den I ρ).l = (A.den I ρ).l ++ (B.den I ρ).l := by
  unfold app1
  split <;> simp [E.den, BiO.den]

def mkApp : E → E → E
  | .nil, B => B
  | .bi .row a b, B => .bi .row a (mkApp b B)
  | A, B => app1 A B

theorem mkApp_l (I : Itp) (ρ : List U) : ∀ (A B : E), ((mkApp A B).den I ρ).l = (A.den I ρ).l ++ (B.den I ρ).l := by
  intro A
  induction A with
  | bi o a b _ ihb =>
    intro B
    cases o with
    | row => simp [mkApp, E.den, BiO.den, ihb]
    | _ => exact app1_l I ρ _ _
  | nil => intro B; simp [mkApp, E.den]
  | _ => intro B; exact app1_l I ρ _ _

def mkTake (pc : List E) (A n : E) : E :=
  if decLe pc n (.lit 0) = some true then .nil else
  if n.same (.un .len A) then A else .bi .take A n

theorem mkTake_l {I : Itp} {ρ : List U} {pc : List E} (hpc : Holds I ρ pc) (A n : E) : ((mkTake pc A n).den I ρ).l = (A.den I ρ).l.take (n.den I ρ).i.toNat := by
  unfold mkTake
  split
  · rename_i h
    have := of_decide_eq_true (decLe_ok hpc h)
    simp only [E.den] at this
    have h0 : (n.den I ρ).i.toNat = 0 := by omega
    simp [E.den, h0]
  · split
    · rename_i hs
      rw [E.same_eq hs]; simp [E.den, UnO.den]
    · simp [E.den, BiO.den]

def mkDrop (pc : List E) (A n : E) : E :=
  if decLe pc n (.lit 0) = some true then A else
  if n.same (.un .len A) then .nil else .bi .drop A n

theorem mkDrop_l {I : Itp} {ρ : List U} {pc : List E} (hpc : Holds I ρ pc) (A n : E) : ((mkDrop pc A n).den I ρ).l = (A.den I ρ).l.drop (n.den I ρ).i.toNat := by
  unfold mkDrop
  split
  · rename_i h
    have := of_decide_eq_true (decLe_ok hpc h)
    simp only [E.den] at this
    have h0 : (n.den I ρ).i.toNat = 0 := by omega
    simp [h0]
  · split
    · rename_i hs
      rw [E.same_eq hs]; simp [E.den, UnO.den]
    · simp [E.den, BiO.den]

/-! ### maps as rows: key and value side by side -/

/-- does this row begin with this key: yes, no, or not seen -/
def keyIsE (pc : List E) : E → E → Option Bool
  | .nil, _ => some true
  | .bi .cons a k, .bi .cons b r => both (decEq' pc a b) (keyIsE pc k r)
  | _, _ => none

def findL (pc : List E) (k : E) : E → Nat → Option Nat
  | .nil, n => some n
  | .bi .row r A, n => match keyIsE pc k r with
    | some true => some n
    | some false => findL pc k A (n + 1)
    | none => none
  | _, _ => none

def putL (pc : List E) (k row : E) : E → Option E
  | .nil => some (.bi .row row .nil)
  | .bi .row r A => match keyIsE pc k r with
    | some true => some (.bi .row row A)
    | some false => (putL pc k row A).map (.bi .row r)
    | none => none
  | _ => none

def findOr (pc : List E) (A k : E) : E := match findL pc k A 0 with | some n => .lit n | none => .bi .find A k
def mkFind (pc : List E) (A k : E) : E :=
  match A with
  | .te .ent B k' row => if k'.same k && decide (keyIsE pc k row = some true) then mkFind pc B k else .bi .find (.te .ent B k' row) k
  | A => findOr pc A k
def mkPut (pc : List E) (A k row : E) : E := match putL pc k row A with | some B => B | none => .te .put A k row

theorem keyIsE_ok {I : Itp} {ρ : List U} {pc : List E} (hpc : Holds I ρ pc) : ∀ (k r : E) (b : Bool), keyIsE pc k r = some b → keyIs (k.den I ρ).r (r.den I ρ).r = b
  | .nil, r, b, h => by simp [keyIsE] at h; subst h; simp [keyIs, E.den]
  | .bi o a k, r, b, h => by
    unfold keyIsE at h
    split at h
    · rename_i he; cases he
    · rename_i a' k' b' r' h1
      simp only [E.bi.injEq] at h1
      obtain ⟨rfl, rfl, rfl⟩ := h1
      have := both_ok (x := ((a.den I ρ).i == (b'.den I ρ).i)) (y := keyIs (k.den I ρ).r (r'.den I ρ).r) (fun x hx => decEq'_ok hpc hx) (fun x hx => keyIsE_ok hpc k r' x hx) h
      rw [← this]
      simp only [keyIs, E.den, BiO.den, List.length_cons, List.take_succ_cons]
      rw [show ((b'.den I ρ).i :: (r'.den I ρ).r.take (k.den I ρ).r.length == (a.den I ρ).i :: (k.den I ρ).r) = (((b'.den I ρ).i == (a.den I ρ).i) && ((r'.den I ρ).r.take (k.den I ρ).r.length == (k.den I ρ).r)) from rfl, Bool.beq_comm]
    · cases h
  | .lit _, r, b, h => by simp [keyIsE] at h
  | .bl _, r, b, h => by simp [keyIsE] at h
  | .var _, r, b, h => by simp [keyIsE] at h
  | .un _ _, r, b, h => by simp [keyIsE] at h
  | .te _ _ _ _, r, b, h => by simp [keyIsE] at h
  | .se _ _ _ _, r, b, h => by simp [keyIsE] at h
  | .fn1 _ _, r, b, h => by simp [keyIsE] at h
  | .fn2 _ _ _, r, b, h => by simp [keyIsE] at h
  | .fn3 _ _ _ _, r, b, h => by simp [keyIsE] at h
  | .fn4 _ _ _ _ _, r, b, h => by simp [keyIsE] at h

theorem findRow_nil (k : List Int) : findRow [] k = 0 := rfl
theorem findRow_cons (r : List Int) (A : List (List Int)) (k : List Int) : findRow (r :: A) k = if keyIs k r then 0 else findRow A k + 1 := by
  unfold findRow
  rw [List.findIdx_cons]
  cases keyIs k r <;> rfl

theorem findL_ok {I : Itp} {ρ : List U} {pc : List E} (hpc : Holds I ρ pc) (k : E) : ∀ (A : E) (n m : Nat), findL pc k A n = some m → m = n + findRow (A.den I ρ).l (k.den I ρ).r := by
  intro A
  induction A with
  | nil => intro n m h; simp [findL] at h; simp [E.den, findRow_nil, h]
  | bi o r A _ ih =>
    intro n m h
    unfold findL at h
    split at h
    · rename_i he; cases he
    · rename_i r' A' n' h1
      simp only [E.bi.injEq] at h1
      obtain ⟨rfl, rfl, rfl⟩ := h1
      simp only [E.den, BiO.den, findRow_cons]
      split at h
      · rename_i hk
        rw [keyIsE_ok hpc _ _ _ hk]
        simp at h; simp [h]
      · rename_i hk
        rw [keyIsE_ok hpc _ _ _ hk]
        have := ih _ _ h
        simp; omega
      · cases h
    · cases h
  | _ => intro n m h; simp [findL] at h

theorem findRow_len (l : List (List Int)) (k : List Int) : findRow l k ≤ l.length := List.findIdx_le_length
theorem findRow_ent {l : List (List Int)} {k row : List Int} (h : keyIs k row = true) : findRow (entRow l k row) k = findRow l k := by
  unfold entRow
  split
  · rfl
  · rename_i hn
    have hle := findRow_len l k
    have he : findRow l k = l.length := by omega
    rw [he]
    unfold findRow at hn ⊢
    rw [List.findIdx_append]
    have : List.findIdx (keyIs k) l = l.length := by unfold findRow at he; exact he
    rw [this]
    simp [h]

theorem mkFind_i {I : Itp} {ρ : List U} {pc : List E} (hpc : Holds I ρ pc) : ∀ (A k : E), ((mkFind pc A k).den I ρ).i = ((findRow (A.den I ρ).l (k.den I ρ).r : Nat) : Int) := by
  intro A
  have base : ∀ (A k : E), ((findOr pc A k).den I ρ).i = ((findRow (A.den I ρ).l (k.den I ρ).r : Nat) : Int) := by
    intro A k
    unfold findOr
    split
    · rename_i n h
      have := findL_ok hpc k A 0 n h
      simp only [E.den]; omega
    · rfl
  induction A with
  | te o B k' row ihB _ _ =>
    intro k
    cases o with
    | ent =>
      unfold mkFind
      split
      · rename_i hc
        simp only [Bool.and_eq_true, decide_eq_true_eq] at hc
        rw [ihB k]
        have e := E.same_eq hc.1
        subst e
        simp only [E.den, TeO.den]
        rw [findRow_ent (keyIsE_ok hpc _ _ _ hc.2)]
      · rfl
    | _ => unfold mkFind; exact base _ k
  | _ => intro k; unfold mkFind; exact base _ k

theorem putRow_cons (r : List Int) (A : List (List Int)) (k row : List Int) : putRow (r :: A) k row = if keyIs k r then row :: A else r :: putRow A k row := by
  unfold putRow
  rw [findRow_cons]
  cases keyIs k r with
  | true => simp
  | false =>
    simp only [Bool.false_eq_true, if_false, List.length_cons, Nat.add_lt_add_iff_right, List.set_cons_succ, List.cons_append]
    split <;> rfl

theorem putL_ok {I : Itp} {ρ : List U} {pc : List E} (hpc : Holds I ρ pc) (k row : E) : ∀ (A B : E), putL pc k row A = some B → (B.den I ρ).l = putRow (A.den I ρ).l (k.den I ρ).r (row.den I ρ).r := by
  intro A
  induction A with
  | nil => intro B h; simp [putL] at h; subst h; simp [E.den, BiO.den, putRow]
  | bi o r A _ ih =>
    intro B h
    unfold putL at h
    split at h
    · rename_i he; cases he
    · rename_i r' A' h1
      simp only [E.bi.injEq] at h1
      obtain ⟨rfl, rfl, rfl⟩ := h1
      simp only [E.den, BiO.den, putRow_cons]
      split at h
      · rename_i hk
        rw [keyIsE_ok hpc _ _ _ hk]
        simp at h; subst h; simp [E.den, BiO.den]
      · rename_i hk
        rw [keyIsE_ok hpc _ _ _ hk]
        rw [Option.map_eq_some_iff] at h
        obtain ⟨B', hB, rfl⟩ := h
        simp [E.den, BiO.den, ih _ hB]
      · cases h
    · cases h
  | _ => intro B h; simp [putL] at h

theorem mkPut_l {I : Itp} {ρ : List U} {pc : List E} (hpc : Holds I ρ pc) (A k row : E) : ((mkPut pc A k row).den I ρ).l = putRow (A.den I ρ).l (k.den I ρ).r (row.den I ρ).r := by
  unfold mkPut
  split
  · rename_i h; exact putL_ok hpc _ _ _ _ h
  · rfl

def mkLen (pc : List E) : E → E
  | .nil => .lit 0
  | .bi .row _ b => plus (mkLen pc b) 1
  | .bi .snoc A _ => plus (mkLen pc A) 1
  | .bi .app A B => mkAdd (mkLen pc A) (mkLen pc B)
  | .se A _ _ _ => mkLen pc A
  | .bi .rep n r => if decLe pc (.lit 0) n = some true then n else .un .len (.bi .rep n r)
  | .bi .take A n => if decLe pc (.lit 0) n = some true && decLe pc n (mkLen pc A) = some true then n else .un .len (.bi .take A n)
  | .bi .drop A n => if decLe pc (.lit 0) n = some true && decLe pc n (mkLen pc A) = some true then mkSub (mkLen pc A) n else .un .len (.bi .drop A n)
  | A => .un .len A

theorem length_setAt (A : List (List Int)) (i j : Nat) (x : Int) : (setAt A i j x).length = A.length := by simp [setAt]

theorem mkLen_i {I : Itp} {ρ : List U} {pc : List E} (hpc : Holds I ρ pc) : ∀ A : E, ((mkLen pc A).den I ρ).i = (A.den I ρ).l.length := by
  intro A
  induction A with
  | bi o a b iha ihb =>
    cases o with
    | row => simp only [mkLen, plus_i, ihb]; simp [E.den, BiO.den]
    | snoc => simp only [mkLen, plus_i, iha]; simp [E.den, BiO.den]
    | app => simp only [mkLen, mkAdd_i, iha, ihb]; simp [E.den, BiO.den]
    | rep =>
      simp only [mkLen]
      split
      · rename_i h
        have := of_decide_eq_true (decLe_ok hpc h)
        simp only [E.den] at this
        simp [E.den, BiO.den]; omega
      · simp [E.den, UnO.den]
    | take =>
      simp only [mkLen]
      split
      · rename_i h
        simp only [Bool.and_eq_true, decide_eq_true_eq] at h
        have h1 := of_decide_eq_true (decLe_ok hpc h.1)
        have h2 := of_decide_eq_true (decLe_ok hpc h.2)
        rw [iha] at h2
        simp only [E.den] at h1
        simp [E.den, BiO.den]; omega
      · simp [E.den, UnO.den]
    | drop =>
      simp only [mkLen]
      split
      · rename_i h
        simp only [Bool.and_eq_true, decide_eq_true_eq] at h
        have h1 := of_decide_eq_true (decLe_ok hpc h.1)
        have h2 := of_decide_eq_true (decLe_ok hpc h.2)
        rw [iha] at h2
        simp only [E.den] at h1
        rw [mkSub_i, iha]
        simp [E.den, BiO.den]; omega
      · simp [E.den, UnO.den]
    | _ => simp [mkLen, E.den, UnO.den]
  | se A i j x ihA _ _ _ => simp only [mkLen, ihA, E.den, length_setAt]
  | _ => simp [mkLen, E.den, UnO.den]

/-- the n-th number of a written row -/
def nthCell : E → Nat → Option E
  | .bi .cons a _, 0 => some a
  | .bi .cons _ b, n + 1 => nthCell b n
  | _, _ => none

theorem nthCell_ok (I : Itp) (ρ : List U) : ∀ (r : E) (n : Nat) (e : E), nthCell r n = some e → (r.den I ρ).r.getD n 0 = (e.den I ρ).i := by
  intro r
  induction r with
  | bi o a b _ ihb =>
    intro n e h
    cases o <;> cases n <;> simp [nthCell] at h
    · subst h; simp [E.den, BiO.den]
    · have := ihb _ _ h; simpa [E.den, BiO.den] using this
  | _ => intro n e h; simp [nthCell] at h

def nthRow : E → Nat → Option E
  | .bi .row a _, 0 => some a
  | .bi .row _ b, n + 1 => nthRow b n
  | _, _ => none

theorem nthRow_ok (I : Itp) (ρ : List U) : ∀ (r : E) (n : Nat) (e : E), nthRow r n = some e → (r.den I ρ).l.getD n [] = (e.den I ρ).r := by
  intro r
  induction r with
  | bi o a b _ ihb =>
    intro n e h
    cases o <;> cases n <;> simp [nthRow] at h
    · subst h; simp [E.den, BiO.den]
    · have := ihb _ _ h; simpa [E.den, BiO.den] using this
  | _ => intro n e h; simp [nthRow] at h

/-- the number j of the row i of A -/
def mkGet (pc : List E) : E → E → E → E
  | .bi .row a b, .lit i, .lit j =>
    match (nthRow (.bi .row a b) i.toNat).bind (fun r => nthCell r j.toNat) with
    | some e => e
    | none => .te .get (.bi .row a b) (.lit i) (.lit j)
  | .bi .snoc A r, i, .lit j =>
    if decEq' pc i (mkLen pc A) = some true then
      match nthCell r j.toNat with
      | some e => e
      | none => .te .get (.bi .snoc A r) i (.lit j)
    else if decLe pc (.lit 0) i = some true && decLt pc i (mkLen pc A) = some true then mkGet pc A i (.lit j)
    else .te .get (.bi .snoc A r) i (.lit j)
  | .bi .app A B, i, j =>
    if decLe pc (.lit 0) i = some true && decLt pc i (mkLen pc A) = some true then mkGet pc A i j
    else if decLe pc (mkLen pc A) i = some true then mkGet pc B (mkSub i (mkLen pc A)) j
    else .te .get (.bi .app A B) i j
  | .bi .take A n, i, j => if decLe pc (.lit 0) i = some true && decLt pc i n = some true then mkGet pc A i j else .te .get (.bi .take A n) i j
  | .bi .drop A n, i, j => if decLe pc (.lit 0) i = some true && decLe pc (.lit 0) n = some true then mkGet pc A (mkAdd n i) j else .te .get (.bi .drop A n) i j
  | .bi .rep n r, i, .lit j =>
    if decLe pc (.lit 0) i = some true && decLt pc i n = some true then
      match nthCell r j.toNat with
      | some e => e
      | none => .te .get (.bi .rep n r) i (.lit j)
    else .te .get (.bi .rep n r) i (.lit j)
  | A, i, j => .te .get A i j

theorem mkGet_i {I : Itp} {ρ : List U} {pc : List E} (hpc : Holds I ρ pc) : ∀ (A i j : E), ((mkGet pc A i j).den I ρ).i = ((A.den I ρ).l.getD (i.den I ρ).i.toNat []).getD (j.den I ρ).i.toNat 0 := by
  intro A
  induction A with
  | bi o a b iha ihb =>
    intro i j
    cases o with
    | row =>
      unfold mkGet
      split <;> (try simp_all; done)
      · rename_i a' b' i' j' heq
        simp only [E.bi.injEq, true_and] at heq
        obtain ⟨rfl, rfl⟩ := heq
        split
        · rename_i e he
          rw [Option.bind_eq_some_iff] at he
          obtain ⟨r, hr, he⟩ := he
          have h1 := nthRow_ok I ρ _ _ _ hr
          have h2 := nthCell_ok I ρ _ _ _ he
          rw [show (E.den I ρ (.lit i')).i = i' from rfl, show (E.den I ρ (.lit j')).i = j' from rfl, h1, h2]
        · simp [E.den, TeO.den]
      · simp [E.den, TeO.den]
    | snoc =>
      unfold mkGet
      split <;> (try simp_all; done)
      · rename_i A' r' i' j' heq
        simp only [E.bi.injEq, true_and] at heq
        obtain ⟨rfl, rfl⟩ := heq
        split
        · rename_i he
          have h1 := decEq'_ok hpc he
          rw [mkLen_i hpc] at h1
          simp only [beq_iff_eq] at h1
          split
          · rename_i e hc
            have h2 := nthCell_ok I ρ _ _ _ hc
            rw [h1, show (E.den I ρ (.lit j')).i = j' from rfl]
            simp only [E.den, BiO.den, Int.toNat_natCast]
            rw [← h2]
            simp [List.getD_eq_getElem?_getD]
          · simp [E.den, TeO.den]
        · split
          · rename_i h
            simp only [Bool.and_eq_true, decide_eq_true_eq] at h
            have h1 := of_decide_eq_true (decLe_ok hpc h.1)
            have h2 := of_decide_eq_true (decLt_ok hpc h.2)
            rw [mkLen_i hpc] at h2
            simp only [E.den] at h1
            rw [iha]
            simp only [E.den, BiO.den, List.getD_eq_getElem?_getD]
            rw [List.getElem?_append_left (by omega)]
          · simp [E.den, TeO.den]
      · simp [E.den, TeO.den]
    | app =>
      simp only [mkGet]
      · split
        · rename_i h
          simp only [Bool.and_eq_true, decide_eq_true_eq] at h
          have h1 := of_decide_eq_true (decLe_ok hpc h.1)
          have h2 := of_decide_eq_true (decLt_ok hpc h.2)
          rw [mkLen_i hpc] at h2
          simp only [E.den] at h1
          rw [iha]
          simp only [E.den, BiO.den, List.getD_eq_getElem?_getD]
          rw [List.getElem?_append_left (by omega)]
        · split
          · rename_i h
            have h2 := of_decide_eq_true (decLe_ok hpc h)
            rw [mkLen_i hpc] at h2
            rw [ihb, mkSub_i, mkLen_i hpc]
            simp only [E.den, BiO.den, List.getD_eq_getElem?_getD]
            rw [List.getElem?_append_right (by omega)]
            congr 4; omega
          · simp [E.den, TeO.den]
    | take =>
      simp only [mkGet]
      · split
        · rename_i h
          simp only [Bool.and_eq_true, decide_eq_true_eq] at h
          have h1 := of_decide_eq_true (decLe_ok hpc h.1)
          have h2 := of_decide_eq_true (decLt_ok hpc h.2)
          simp only [E.den] at h1
          rw [iha]
          simp only [E.den, BiO.den, List.getD_eq_getElem?_getD]
          rw [List.getElem?_take_of_lt (by omega)]
        · simp [E.den, TeO.den]
    | drop =>
      simp only [mkGet]
      · split
        · rename_i h
          simp only [Bool.and_eq_true, decide_eq_true_eq] at h
          have h1 := of_decide_eq_true (decLe_ok hpc h.1)
          have h2 := of_decide_eq_true (decLe_ok hpc h.2)
          simp only [E.den] at h1 h2
          rw [iha, mkAdd_i]
          simp only [E.den, BiO.den, List.getD_eq_getElem?_getD, List.getElem?_drop]
          rw [Int.toNat_add h2 h1]
        · simp [E.den, TeO.den]
    | rep =>
      unfold mkGet
      split <;> (try simp_all; done)
      · rename_i A' r' i' j' heq
        simp only [E.bi.injEq, true_and] at heq
        obtain ⟨rfl, rfl⟩ := heq
        split
        · rename_i h
          simp only [Bool.and_eq_true, decide_eq_true_eq] at h
          have h1 := of_decide_eq_true (decLe_ok hpc h.1)
          have h2 := of_decide_eq_true (decLt_ok hpc h.2)
          simp only [E.den] at h1
          split
          · rename_i e hc
            have h3 := nthCell_ok I ρ _ _ _ hc
            rw [show (E.den I ρ (.lit j')).i = j' from rfl, ← h3]
            simp only [E.den, BiO.den, List.getD_eq_getElem?_getD]
            rw [List.getElem?_replicate_of_lt (by omega)]
            simp
          · simp [E.den, TeO.den]
        · simp [E.den, TeO.den]
      · simp [E.den, TeO.den]
    | _ => intros; simp [mkGet, E.den, TeO.den]
  | _ => intro i j; simp [mkGet, E.den, TeO.den]

/-- a row out of numbers -/
def rowOf : List E → E
  | [] => .nil
  | a :: l => .bi .cons a (rowOf l)

theorem rowOf_r (I : Itp) (ρ : List U) : ∀ l : List E, ((rowOf l).den I ρ).r = l.map fun e => (e.den I ρ).i
  | [] => rfl
  | a :: l => by simp [rowOf, E.den, BiO.den, rowOf_r I ρ l]

/-- a list of rows -/
def rowsOf : List E → E
  | [] => .nil
  | a :: l => .bi .row a (rowsOf l)

theorem rowsOf_l (I : Itp) (ρ : List U) : ∀ l : List E, ((rowsOf l).den I ρ).l = l.map fun e => (e.den I ρ).r
  | [] => rfl
  | a :: l => by simp [rowsOf, E.den, BiO.den, rowsOf_l I ρ l]

/-- A list of rows of one number each, all of them written out. -/
def tabOf : E → Option (List Int)
  | .nil => some []
  | .bi .row (.bi .cons (.lit n) .nil) b => (tabOf b).map (n :: ·)
  | _ => none

theorem tabOf_ok (I : Itp) (ρ : List U) : ∀ (A : E) (l : List Int), tabOf A = some l → (A.den I ρ).l = l.map fun n => [n]
  | .nil, l, h => by simp only [tabOf, Option.some.injEq] at h; subst h; rfl
  | .bi .row (.bi .cons (.lit n) .nil) b, l, h => by
    simp only [tabOf, Option.map_eq_some_iff] at h
    obtain ⟨m, hm, rfl⟩ := h
    have ih := tabOf_ok I ρ b m hm
    simp [E.den, BiO.den, ih]

/-- A number out of a list of rows; where the list is a table, the table's. -/
def mkGetT0 (pc : List E) (A i j : E) : E :=
  match i with
  | .lit _ => mkGet pc A i j
  | i => match j, tabOf A with
    | .lit 0, some l => .un (.tab l) i
    | _, _ => mkGet pc A i j

theorem mkGetT0_i {I : Itp} {ρ : List U} {pc : List E} (hpc : Holds I ρ pc) (A i j : E) : ((mkGetT0 pc A i j).den I ρ).i = ((A.den I ρ).l.getD (i.den I ρ).i.toNat []).getD (j.den I ρ).i.toNat 0 := by
  unfold mkGetT0
  split
  · exact mkGet_i hpc _ _ _
  · split
    · rename_i l hl
      rw [tabOf_ok I ρ A l hl]
      simp only [E.den, UnO.den, List.getD_eq_getElem?_getD, List.getElem?_map]
      cases l[(E.den I ρ i).i.toNat]? <;> simp
    · exact mkGet_i hpc _ _ _

/-- is the n-th cell of a row a zero that stands there? -/
def zeroCell (r : E) (n : Nat) : Bool := match nthCell r n with | some (.lit 0) => true | _ => false

def mkGetT (pc : List E) (A i j : E) : E :=
  match A, j with
  | .te .ent B k row, .lit c => if i.same (mkFind pc B k) && zeroCell row c.toNat && decide (keyIsE pc k row = some true) then mkGetT0 pc B i j else mkGetT0 pc A i j
  | _, _ => mkGetT0 pc A i j

theorem mkGetT_i {I : Itp} {ρ : List U} {pc : List E} (hpc : Holds I ρ pc) (A i j : E) : ((mkGetT pc A i j).den I ρ).i = ((A.den I ρ).l.getD (i.den I ρ).i.toNat []).getD (j.den I ρ).i.toNat 0 := by
  unfold mkGetT
  split
  · rename_i B k row c
    split
    · rename_i hc
      simp only [Bool.and_eq_true, decide_eq_true_eq] at hc
      obtain ⟨⟨h1, h2⟩, h3⟩ := hc
      rw [mkGetT0_i hpc]
      have e := E.same_eq h1
      have hi : (i.den I ρ).i = findRow (B.den I ρ).l (k.den I ρ).r := by rw [e]; exact mkFind_i hpc B k
      have hz : (row.den I ρ).r.getD c.toNat 0 = 0 := by
        unfold zeroCell at h2
        split at h2
        · rename_i h4; rw [nthCell_ok I ρ _ _ _ h4]; rfl
        · cases h2
      rw [hi, Int.toNat_natCast]
      simp only [E.den, TeO.den]
      unfold entRow
      split
      · rfl
      · rename_i hn
        have hle := findRow_len (B.den I ρ).l (k.den I ρ).r
        have he : findRow (B.den I ρ).l (k.den I ρ).r = (B.den I ρ).l.length := by omega
        rw [he]
        have e1 : (B.den I ρ).l.getD (B.den I ρ).l.length [] = [] := by simp [List.getD_eq_getElem?_getD]
        have e2 : ((B.den I ρ).l ++ [(row.den I ρ).r]).getD (B.den I ρ).l.length [] = (row.den I ρ).r := by simp [List.getD_eq_getElem?_getD]
        rw [e1, e2, hz]
        rfl
    · exact mkGetT0_i hpc _ _ _
  · exact mkGetT0_i hpc _ _ _

end Go.Sx

/- The symbolic executor, part D: abstract values, memory and frames, and what they stand for. -/
namespace Go.Sx
open Go

/-- The kind of a cell in a list of rows. -/
inductive CK where
  | int (k : IntKind)
  | bool
  deriving DecidableEq

def CK.val : CK → Int → Value
  | .int k, n => .int k n
  | .bool, n => .bool (n != 0)

inductive V where
  | junk
  | int (k : IntKind) (e : E)
  | bool (e : E)
  | ptr (h : Nat) (row col : E)
  | nilp
  | slice (h w : Nat) (off len : E) (cap : Option E)
  | nils
  | func (f : Nat) (caps : List V)
  | nilf
  | yld (h : Nat)
  | map (h : Nat)
  | nilm
  | agg (cs : List V)
  | tup (vs : List V)

inductive Jmp where
  | exit (id : Nat)
  | ret
  deriving DecidableEq

def Jmp.code : Jmp → Code
  | .exit id => .exit id
  | .ret => .ret

structure AL where
  fn : Nat
  tmps : List V
  path : List Nat
  st : LoopState
  pend : Option Jmp
  dh : Nat

inductive O where
  | free
  | dead
  | cells (ro : Bool) (cs : List V)
  | rows (ro : Bool) (ks : List CK) (A : E)
  | loop (l : AL)
  | defd
  | amap (ks vs : List CK) (ka va : Bool) (A : E)
  | iter (m : Option Nat) (since : Nat) (seen : List Nat) (stepped : Nat)

def O.isRo : O → Bool
  | .cells ro _ => ro
  | .rows ro _ _ => ro
  | _ => false
def O.live : O → Bool
  | .free | .dead => false
  | _ => true

/-- What a handle stands for: a block, how many cells it has, how wide its rows are. -/
structure Info where
  blk : Nat
  sz : Nat
  wd : Nat
  /-- where its rows begin within the block -/
  bs : Nat

abbrev Env := Nat → Option Info
def Env.le (η η' : Env) : Prop := ∀ h i, η h = some i → η' h = some i
theorem Env.le_refl (η : Env) : η.le η := fun _ _ h => h
theorem Env.le_trans {a b c : Env} (h : a.le b) (h' : b.le c) : a.le c := fun _ _ x => h' _ _ (h _ _ x)

mutual
def V.den (I : Itp) (ρ : List U) (η : Env) : V → Value → Prop
  | .junk, _ => True
  | .int k e, x => x = .int k (e.den I ρ).i
  | .bool e, x => x = .bool (e.den I ρ).b
  | .ptr h r c, x => ∃ i, η h = some i ∧ 0 ≤ (r.den I ρ).i ∧ 0 ≤ (c.den I ρ).i ∧ x = .pointer (some ⟨i.blk, i.bs + ((r.den I ρ).i.toNat * i.wd + (c.den I ρ).i.toNat), none⟩)
  | .nilp, x => x = .pointer none
  | .slice h w o n cap, x => ∃ i, η h = some i ∧ 0 ≤ (o.den I ρ).i ∧ 0 ≤ (n.den I ρ).i ∧
      ((x = .slice none 0 0 ∧ i.sz = 0 ∧ (o.den I ρ).i = 0 ∧ (n.den I ρ).i = 0 ∧ (∀ e, cap = some e → (e.den I ρ).i = 0)) ∨
       ∃ (C f : Nat), (0 < C → f = i.bs + (o.den I ρ).i.toNat * w) ∧ (n.den I ρ).i.toNat ≤ C ∧ ((o.den I ρ).i.toNat + C) * w ≤ i.sz ∧ (∀ e, cap = some e → (e.den I ρ).i = C) ∧
         x = .slice (some ⟨i.blk, f, none⟩) (n.den I ρ).i.toNat C)
  | .nils, x => x = .slice none 0 0
  | .func f caps, x => ∃ xs, x = .func (.func f) #[] xs ∧ V.denL I ρ η caps xs.toList
  | .nilf, x => x = .nilFunc
  | .yld h, x => ∃ i, η h = some i ∧ x = .func (.yield i.blk) #[] #[]
  | .map h, x => ∃ i, η h = some i ∧ x = .map (some i.blk)
  | .nilm, x => x = .map none
  | .agg cs, x => ∃ xs, x = .agg xs ∧ V.denL I ρ η cs xs.toList
  | .tup vs, x => ∃ xs, x = .tuple xs ∧ V.denL I ρ η vs xs.toList
def V.denL (I : Itp) (ρ : List U) (η : Env) : List V → List Value → Prop
  | [], xs => xs = []
  | v :: vs, xs => ∃ y ys, xs = y :: ys ∧ V.den I ρ η v y ∧ V.denL I ρ η vs ys
end

mutual
theorem V.den_mono {I : Itp} {ρ : List U} {η η' : Env} (hle : η.le η') : ∀ (v : V) (x : Value), V.den I ρ η v x → V.den I ρ η' v x
  | .junk, _, _ => by simp [V.den]
  | .int k e, x, h => by simpa only [V.den] using h
  | .bool e, x, h => by simpa only [V.den] using h
  | .ptr h r c, x, hd => by
    simp only [V.den] at hd ⊢
    obtain ⟨i, hi, hr⟩ := hd
    exact ⟨i, hle _ _ hi, hr⟩
  | .nilp, x, h => by simpa only [V.den] using h
  | .slice h w o n cap, x, hd => by
    simp only [V.den] at hd ⊢
    obtain ⟨i, hi, hr⟩ := hd
    exact ⟨i, hle _ _ hi, hr⟩
  | .nils, x, h => by simpa only [V.den] using h
  | .func f caps, x, hd => by
    simp only [V.den] at hd ⊢
    obtain ⟨xs, hx, hr⟩ := hd
    exact ⟨xs, hx, V.denL_mono hle caps _ hr⟩
  | .nilf, x, h => by simpa only [V.den] using h
  | .yld h, x, hd => by
    simp only [V.den] at hd ⊢
    obtain ⟨i, hi, hr⟩ := hd
    exact ⟨i, hle _ _ hi, hr⟩
  | .map h, x, hd => by
    simp only [V.den] at hd ⊢
    obtain ⟨i, hi, hr⟩ := hd
    exact ⟨i, hle _ _ hi, hr⟩
  | .nilm, x, h => by simpa only [V.den] using h
  | .agg cs, x, hd => by
    simp only [V.den] at hd ⊢
    obtain ⟨xs, hx, hr⟩ := hd
    exact ⟨xs, hx, V.denL_mono hle cs _ hr⟩
  | .tup vs, x, hd => by
    simp only [V.den] at hd ⊢
    obtain ⟨xs, hx, hr⟩ := hd
    exact ⟨xs, hx, V.denL_mono hle vs _ hr⟩
theorem V.denL_mono {I : Itp} {ρ : List U} {η η' : Env} (hle : η.le η') : ∀ (vs : List V) (xs : List Value), V.denL I ρ η vs xs → V.denL I ρ η' vs xs
  | [], _, h => by simpa only [V.denL] using h
  | v :: vs, xs, h => by
    simp only [V.denL] at h ⊢
    obtain ⟨y, ys, hx, hy, hys⟩ := h
    exact ⟨y, ys, hx, V.den_mono hle v y hy, V.denL_mono hle vs ys hys⟩
end

theorem V.denL_length {I : Itp} {ρ : List U} {η : Env} : ∀ {vs : List V} {xs : List Value}, V.denL I ρ η vs xs → xs.length = vs.length
  | [], xs, h => by simp only [V.denL] at h; subst h; rfl
  | v :: vs, xs, h => by
    simp only [V.denL] at h
    obtain ⟨y, ys, rfl, _, hys⟩ := h
    simp [V.denL_length hys]

theorem V.denL_get {I : Itp} {ρ : List U} {η : Env} : ∀ {vs : List V} {xs : List Value} (i : Nat) {v : V}, V.denL I ρ η vs xs → vs[i]? = some v → ∃ x, xs[i]? = some x ∧ V.den I ρ η v x
  | [], xs, i, v, _, hv => by simp at hv
  | u :: vs, xs, i, v, h, hv => by
    simp only [V.denL] at h
    obtain ⟨y, ys, rfl, hy, hys⟩ := h
    cases i with
    | zero => simp at hv; subst hv; exact ⟨y, rfl, hy⟩
    | succ i =>
      simp at hv
      obtain ⟨x, hx, hd⟩ := V.denL_get i hys hv
      exact ⟨x, by simpa using hx, hd⟩

theorem V.denL_set {I : Itp} {ρ : List U} {η : Env} : ∀ {vs : List V} {xs : List Value} (i : Nat) {v : V} {x : Value}, V.denL I ρ η vs xs → V.den I ρ η v x → V.denL I ρ η (vs.set i v) (xs.set i x)
  | [], xs, i, v, x, h, _ => by simp only [V.denL] at h; subst h; simp [V.denL]
  | u :: vs, xs, i, v, x, h, hv => by
    simp only [V.denL] at h
    obtain ⟨y, ys, rfl, hy, hys⟩ := h
    cases i with
    | zero => simp only [List.set, V.denL]; exact ⟨_, _, rfl, hv, hys⟩
    | succ i => simp only [List.set, V.denL]; exact ⟨_, _, rfl, hy, V.denL_set i hys hv⟩

theorem V.denL_append {I : Itp} {ρ : List U} {η : Env} : ∀ {vs us : List V} {xs ys : List Value}, V.denL I ρ η vs xs → V.denL I ρ η us ys → V.denL I ρ η (vs ++ us) (xs ++ ys)
  | [], us, xs, ys, h, h' => by simp only [V.denL] at h; subst h; simpa using h'
  | v :: vs, us, xs, ys, h, h' => by
    simp only [V.denL] at h
    obtain ⟨y, zs, rfl, hy, hzs⟩ := h
    simp only [List.cons_append, V.denL]
    exact ⟨_, _, rfl, hy, V.denL_append hzs h'⟩

theorem V.denL_take {I : Itp} {ρ : List U} {η : Env} : ∀ {vs : List V} {xs : List Value} (n : Nat), V.denL I ρ η vs xs → V.denL I ρ η (vs.take n) (xs.take n)
  | [], xs, n, h => by simp only [V.denL] at h; subst h; simp [V.denL]
  | v :: vs, xs, n, h => by
    simp only [V.denL] at h
    obtain ⟨y, zs, rfl, hy, hzs⟩ := h
    cases n with
    | zero => simp [V.denL]
    | succ n => simp only [List.take_succ_cons, V.denL]; exact ⟨_, _, rfl, hy, V.denL_take n hzs⟩

theorem V.denL_drop {I : Itp} {ρ : List U} {η : Env} : ∀ {vs : List V} {xs : List Value} (n : Nat), V.denL I ρ η vs xs → V.denL I ρ η (vs.drop n) (xs.drop n)
  | [], xs, n, h => by simp only [V.denL] at h; subst h; simp [V.denL]
  | v :: vs, xs, n, h => by
    have h' := h
    simp only [V.denL] at h
    obtain ⟨y, zs, rfl, hy, hzs⟩ := h
    cases n with
    | zero => simpa using h'
    | succ n => simpa using V.denL_drop n hzs

theorem V.denL_replicate {I : Itp} {ρ : List U} {η : Env} {v : V} {x : Value} (h : V.den I ρ η v x) : ∀ n : Nat, V.denL I ρ η (List.replicate n v) (List.replicate n x)
  | 0 => by simp [V.denL]
  | n + 1 => by simp only [List.replicate_succ, V.denL]; exact ⟨_, _, rfl, h, V.denL_replicate h n⟩

/-- The cells of a row. -/
def rowVals (ks : List CK) (r : List Int) : List Value := List.zipWith CK.val ks r

/-- Code by its place: 0 the first part, 1 the second. The nearest step stands first. -/
def Code.sub (c : Code) (i : Nat) : Code :=
  match c with
  | .seq a b => if i = 0 then a else b
  | .cond _ a b => if i = 0 then a else b
  | .block _ c => c
  | .loop c => c
  | .scope c => c
  | .rangeFunc _ _ a b => if i = 0 then a else b
  | _ => .skip

def codeAt (body : Code) : List Nat → Code
  | [] => body
  | i :: p => Code.sub (codeAt body p) i

def bodyOf (P : Program) (f : Nat) : Code :=
  match P.funcs[f]? with
  | some fn => fn.body.getD .skip
  | none => .skip

def asVal (ag : Bool) (xs : List Value) : Value := if ag then .agg xs.toArray else xs.headD undef

/-- The entries of a map whose rows are these: key and value side by side, born one after the other. -/
def mapCells (ks vs : List CK) (ka va : Bool) : List (List Int) → Nat → List MapEntry
  | [], _ => []
  | r :: l, n => ⟨asVal ka (rowVals ks (r.take ks.length)), asVal va (rowVals vs (r.drop ks.length)), n⟩ :: mapCells ks vs ka va l (n + 1)

theorem mapCells_length (ks vs : List CK) (ka va : Bool) : ∀ (l : List (List Int)) (n : Nat), (mapCells ks vs ka va l n).length = l.length
  | [], _ => rfl
  | _ :: l, n => by simp [mapCells, mapCells_length ks vs ka va l]

/-- What an object of abstract memory stands for. -/
def O.den (P : Program) (I : Itp) (ρ : List U) (η : Env) (i : Info) : O → Option Obj → Prop
  | .free, _ => False
  | .dead, _ => True
  | .cells ro cs, x => i.bs = 0 ∧ ∃ c ty fz, x = some (.cells c ty fz) ∧ (ro = false → fz = (0, 0)) ∧ cs.length ≤ c.size ∧ c.size = i.sz ∧ V.denL I ρ η cs (c.toList.take cs.length)
  | .rows ro ks A, x => 0 < ks.length ∧ i.wd = ks.length ∧ (∀ r ∈ (A.den I ρ).l, r.length = ks.length) ∧ (ro = false → i.bs = 0) ∧
      ((i.sz = 0 ∧ (A.den I ρ).l = []) ∨
       (0 < i.sz ∧ ∃ c ty fz, x = some (.cells c ty fz) ∧ (ro = false → fz = (0, 0)) ∧ (A.den I ρ).l.length * ks.length ≤ i.sz ∧ i.bs + i.sz ≤ c.size ∧ (ro = false → c.size = i.sz) ∧
         (c.toList.drop i.bs).take ((A.den I ρ).l.length * ks.length) = (A.den I ρ).l.flatMap (rowVals ks)))
  | .loop l, x => ∃ (tmps : Array Value) (prm : Array Tmp) (f : Operand) (asg bd : Code) (d : Info), x = some (.loop { state := l.st, pending := l.pend.map Jmp.code, fn := l.fn, tmps, params := prm, assign := asg, body := bd, defers := d.blk }) ∧
      V.denL I ρ η l.tmps tmps.toList ∧ codeAt (bodyOf P l.fn) l.path = .rangeFunc f prm asg bd ∧ η l.dh = some d
  | .defd, x => x = some (.deferred (some []))
  | .amap ks vs ka va A, x => (∀ r ∈ (A.den I ρ).l, r.length = ks.length + vs.length) ∧ x = some (.map (mapCells ks vs ka va (A.den I ρ).l 0).toArray (A.den I ρ).l.length)
  | .iter m since seen stepped, x => match m with
      | none => x = some (.mapIter none since seen.toArray stepped)
      | some h => ∃ j, η h = some j ∧ (x = some (.mapIter (some j.blk) since seen.toArray stepped) ∧ i.bs = 0)

theorem O.den_mono {P : Program} {I : Itp} {ρ : List U} {η η' : Env} (hle : η.le η') {i : Info} {o : O} {x : Option Obj} (h : o.den P I ρ η i x) : o.den P I ρ η' i x := by
  cases o with
  | free => exact h
  | dead => trivial
  | cells ro cs =>
    obtain ⟨hb, c, ty, fz, hx, h1, h2, h3, h4⟩ := h
    exact ⟨hb, c, ty, fz, hx, h1, h2, h3, V.denL_mono hle _ _ h4⟩
  | rows ro ks A => exact h
  | loop l =>
    obtain ⟨tm, prm, f, asg, bd, d, hx, h1, h2, h3⟩ := h
    exact ⟨tm, prm, f, asg, bd, d, hx, V.denL_mono hle _ _ h1, h2, hle _ _ h3⟩
  | defd => exact h
  | amap ks vs ka va A => exact h
  | iter m since seen stepped =>
    cases m with
    | none => exact h
    | some m =>
      obtain ⟨j, hj, hx⟩ := h
      exact ⟨j, hle _ _ hj, hx⟩

/-- Does the object have a block at all? (A list that has never held anything may have none.) -/
def O.hasBlk (i : Info) : O → Prop
  | .free => False
  | .dead => False
  | .rows _ _ _ => 0 < i.sz
  | _ => True

/-- Between two worlds only blocks of S have been written, and blocks made. -/
structure Keeps (S : Nat → Prop) (w0 w : World) : Prop where
  os : w.os = w0.os
  tape : w.tape = w0.tape
  output : w.output = w0.output
  size : w0.heap.size ≤ w.heap.size
  block : ∀ b, b < w0.heap.size → ¬ S b → w.heap[b]? = w0.heap[b]?

theorem Keeps.refl (S : Nat → Prop) (w : World) : Keeps S w w := ⟨rfl, rfl, rfl, Nat.le_refl _, fun _ _ _ => rfl⟩

/-- One step more: it writes what S or the call's own blocks hold. -/
theorem Keeps.step {S T : Nat → Prop} {w0 w w' : World} (h : Keeps S w0 w) (h' : Keeps T w w') (hT : ∀ b, T b → S b ∨ w0.heap.size ≤ b) : Keeps S w0 w' :=
  ⟨h'.os.trans h.os, h'.tape.trans h.tape, h'.output.trans h.output, Nat.le_trans h.size h'.size, fun b hb hS =>
    (h'.block b (Nat.lt_of_lt_of_le hb h.size) (fun ht => by rcases hT b ht with h1 | h1; exact hS h1; omega)).trans (h.block b hb hS)⟩

/-- What lies behind a handle. -/
def look (H : List O) (h : Nat) : Option O :=
  match H[h]? with
  | some .free => none
  | x => x

/-- Memory, as it stands for the abstract memory H. w0: the world when the call began; S: what the call may write of what was there. -/
structure Mem (P : Program) (I : Itp) (ρ : List U) (η : Env) (H : List O) (S : Nat → Prop) (w0 w : World) : Prop where
  free : ∀ h, look H h = none → η h = none
  obj : ∀ h o, look H h = some o → ∃ i, η h = some i ∧ o.den P I ρ η i w.heap[i.blk]?
  old : ∀ h o i, look H h = some o → η h = some i → o.isRo = true → o.hasBlk i → i.blk < w0.heap.size ∧ ¬ S i.blk
  own : ∀ h o i, look H h = some o → η h = some i → o.isRo = false → o.hasBlk i → S i.blk ∨ w0.heap.size ≤ i.blk
  apart : ∀ h h' o o' i i', h ≠ h' → look H h = some o → look H h' = some o' → η h = some i → η h' = some i' → o.isRo = false → o'.isRo = false → o.hasBlk i → o'.hasBlk i' → i.blk ≠ i'.blk
  keeps : Keeps S w0 w

inductive TI where
  | at (p : List Nat)
  | reg (p : List Nat) (i : Nat)
  | blk (id : Nat)
  | lp (p : List Nat)
  | sc (p : List Nat)
  | rfn (h : Nat)
  | erf (h : Nat)
  | beg
  | jmp (j : Jmp)
  deriving DecidableEq

structure Fr where
  fn : Nat
  tmps : List V
  todo : List TI
  defs : List Nat
  rnd : Option Nat

structure St where
  top : Fr
  below : List Fr
  H : List O

def TI.den (body : Code) (η : Env) : TI → Item → Prop
  | .at p, x => x = .code (codeAt body p)
  | .reg p i, x => ∃ id ops d, codeAt body p = .region id ops d ∧ x = .inRegion ops (List.range' i (ops.size - i))
  | .blk id, x => x = .inBlock id
  | .lp p, x => ∃ c, codeAt body p = .loop c ∧ x = .inLoop c
  | .sc p, x => ∃ c, codeAt body p = .scope c ∧ x = .inScope c
  | .rfn h, x => ∃ i, η h = some i ∧ x = .inRangeFunc i.blk
  | .erf h, x => ∃ i, η h = some i ∧ x = .endRangeFunc i.blk
  | .beg, x => x = .beginRound
  | .jmp j, x => x = .code j.code

theorem TI.den_mono {body : Code} {η η' : Env} (hle : η.le η') {t : TI} {x : Item} (h : t.den body η x) : t.den body η' x := by
  cases t <;> first
    | exact h
    | (obtain ⟨i, hi, hx⟩ := h; exact ⟨i, hle _ _ hi, hx⟩)

def TI.denL (body : Code) (η : Env) : List TI → List Item → Prop
  | [], xs => xs = []
  | t :: ts, xs => ∃ y ys, xs = y :: ys ∧ t.den body η y ∧ TI.denL body η ts ys

theorem TI.denL_mono {body : Code} {η η' : Env} (hle : η.le η') : ∀ (ts : List TI) (xs : List Item), TI.denL body η ts xs → TI.denL body η' ts xs
  | [], _, h => h
  | t :: ts, xs, h => by
    simp only [TI.denL] at h ⊢
    obtain ⟨y, ys, hx, h1, h2⟩ := h
    exact ⟨y, ys, hx, TI.den_mono hle h1, TI.denL_mono hle ts ys h2⟩

def defMarks (η : Env) : List Nat → List Deferred → Prop
  | [], ds => ds = []
  | h :: hs, ds => ∃ i ds', η h = some i ∧ ds = { target := .collected i.blk, args := #[] } :: ds' ∧ defMarks η hs ds'

theorem defMarks_mono {η η' : Env} (hle : η.le η') : ∀ (hs : List Nat) (ds : List Deferred), defMarks η hs ds → defMarks η' hs ds
  | [], _, h => h
  | h :: hs, ds, hd => by
    simp only [defMarks] at hd ⊢
    obtain ⟨i, ds', hi, hx, h2⟩ := hd
    exact ⟨i, ds', hle _ _ hi, hx, defMarks_mono hle hs ds' h2⟩

/-- What an abstract frame stands for. -/
structure Fr.den (P : Program) (I : Itp) (ρ : List U) (η : Env) (fr : Fr) (F : Frame) : Prop where
  fn : F.fn = fr.fn
  tmps : V.denL I ρ η fr.tmps F.tmps.toList
  todo : TI.denL (bodyOf P fr.fn) η fr.todo F.todo
  defs : defMarks η fr.defs F.defers
  mode : F.mode = .run
  kind : F.kind = .normal
  rnd : match fr.rnd with
    | none => F.roundOf = none
    | some h => ∃ i, η h = some i ∧ F.roundOf = some i.blk

theorem Fr.den_mono {P : Program} {I : Itp} {ρ : List U} {η η' : Env} (hle : η.le η') {fr : Fr} {F : Frame} (h : fr.den P I ρ η F) : fr.den P I ρ η' F :=
  ⟨h.fn, V.denL_mono hle _ _ h.tmps, TI.denL_mono hle _ _ h.todo, defMarks_mono hle _ _ h.defs, h.mode, h.kind, by
    have := h.rnd
    cases hr : fr.rnd with
    | none => simpa [hr] using this
    | some k =>
      simp only [hr] at this ⊢
      obtain ⟨i, hi, hx⟩ := this
      exact ⟨i, hle _ _ hi, hx⟩⟩

def Fr.denL (P : Program) (I : Itp) (ρ : List U) (η : Env) : List Fr → List Frame → Prop
  | [], xs => xs = []
  | f :: fs, xs => ∃ y ys, xs = y :: ys ∧ f.den P I ρ η y ∧ Fr.denL P I ρ η fs ys

theorem Fr.denL_mono {P : Program} {I : Itp} {ρ : List U} {η η' : Env} (hle : η.le η') : ∀ (ts : List Fr) (xs : List Frame), Fr.denL P I ρ η ts xs → Fr.denL P I ρ η' ts xs
  | [], _, h => h
  | t :: ts, xs, h => by
    simp only [Fr.denL] at h ⊢
    obtain ⟨y, ys, hx, h1, h2⟩ := h
    exact ⟨y, ys, hx, Fr.den_mono hle h1, Fr.denL_mono hle ts ys h2⟩

end Go.Sx

/- The symbolic executor, part E: one operation on abstract values and abstract memory. -/
namespace Go.Sx
open Go

def constA : Value → V
  | .int k n => .int k (.lit n)
  | .bool b => .bool (.bl b)
  | .pointer none => .nilp
  | .slice none 0 0 => .nils
  | .nilFunc => .nilf
  | .map none => .nilm
  | _ => .junk

def constV : Value → V
  | .agg cs => .agg (cs.toList.map constA)
  | .tuple cs => if cs.toList.isEmpty then .tup [] else .junk
  | .func (.func f) a b => if a.toList.isEmpty && b.toList.isEmpty then .func f [] else .junk
  | v => constA v

def evalO (gl : List (Nat × Nat)) (tmps : List V) : Operand → V
  | .tmp t => tmps.getD t (.tup [])
  | .const v => constV v
  | .global g => match gl.find? (·.1 == g) with
    | some (_, h) => .ptr h (.lit 0) (.lit 0)
    | none => .junk
  | .func f => .func f []

def V.isAtom : V → Bool
  | .junk | .agg _ | .tup _ => false
  | _ => true

/-- The cells of a value. -/
def V.cellsOf : V → Option (List V)
  | .agg cs => if cs.all V.isAtom then some cs else none
  | .tup _ => none
  | .junk => none
  | v => some [v]

def isAggT (P : Program) (t : TypeId) : Option Bool :=
  match P.underlying t with
  | some (.struct _) => some true
  | some (.array _ _) => some true
  | some _ => some false
  | none => none

def sizeT (P : Program) (t : TypeId) : Option Nat := (P.info? t).map (·.size)

/-- What an operation gives: its value, what must hold, the objects that it lays or turns, the handles that it looks at. -/
structure AR where
  v : V
  needs : List E := []
  eff : List (Nat × O) := []
  rd : List Nat := []

/-- what an operation comes to: a result, a test that must be decided first, or nothing -/
inductive Res where
  | ok (r : AR)
  | ask (c : E)
  | no (n : Nat)
  /-- one of these, and it is not known which -/
  | any (rs : List AR)

/-- Tests that must hold: struck where they are seen to hold; none where one is seen not to. -/
def mkNeeds (pc : List E) : List E → Option (List E)
  | [] => some []
  | c :: cs =>
    match decC pc c, mkNeeds pc cs with
    | some true, r => r
    | some false, _ => none
    | none, some r => some (c :: r)
    | none, none => none

def b2i (e : E) : E :=
  match e with
  | .bl b => .lit (if b then 1 else 0)
  | e => .te .ite e (.lit 1) (.lit 0)

def i2b (pc : List E) (e : E) : E :=
  match e with
  | .lit n => .bl (n != 0)
  | .te .ite c (.lit 1) (.lit 0) => c
  | e => mkC pc (.un .not (.bi .eq e (.lit 0)))

def cellV (pc : List E) (k : CK) (e : E) : V :=
  match k with
  | .int k => .int k e
  | .bool => .bool (i2b pc e)

/-- A cell's value as a number of a row. -/
def cellE (k : CK) (v : V) : Option E :=
  match k, v with
  | .int k, .int k' e => if k = k' then some e else none
  | .bool, .bool e => some (b2i e)
  | _, _ => none

def natLit : E → Option Nat
  | .lit n => if 0 ≤ n then some n.toNat else none
  | _ => none

def okR (pc : List E) (v : V) (needs : List E) (eff : List (Nat × O)) (rd : List Nat) : Res :=
  match mkNeeds pc needs with
  | some ns => .ok { v, needs := ns, eff, rd }
  | none => .no 1

def colsOf (pc : List E) (ks : List CK) (A r : E) (j : Nat) : Nat → Option (List V)
  | 0 => some []
  | n + 1 =>
    match ks[j]?, colsOf pc ks A r (j + 1) n with
    | some k, some l => some (cellV pc k (mkGetT pc A r (.lit j)) :: l)
    | _, _ => none

def allSame (k : CK) (ks : List CK) : Bool := ks.all (fun k' => decide (k' = k))

/-- all cells of a list of rows of known length -/
def allCols (pc : List E) (ks : List CK) (A : E) (i : Nat) : Nat → Option (List V)
  | 0 => some []
  | n + 1 =>
    match colsOf pc ks A (.lit i) 0 ks.length, allCols pc ks A (i + 1) n with
    | some l, some m => some (l ++ m)
    | _, _ => none

/-- numbers of one kind, as rows of one -/
def oneRows (k : IntKind) : List V → Option (List E)
  | [] => some []
  | .int k' e :: l => if k' = k then (oneRows k l).map (rowOf [e] :: ·) else none
  | _ :: _ => none

def loadR (P : Program) (pc : List E) (H : List O) (t : TypeId) (x : V) : Res :=
  match x with
  | .ptr h r c =>
    match H[h]?, isAggT P t, sizeT P t with
    | some (.cells _ cs), some ag, some s =>
      match r, natLit c with
      | .lit 0, some c =>
        if ag then
          if c + s ≤ cs.length then .ok { v := .agg ((cs.drop c).take s), rd := [h] } else .no 2
        else match cs[c]? with
          | some v => .ok { v, rd := [h] }
          | none => .no 3
      | .lit 0, none =>
        match cs with
        | .int k _ :: _ =>
          if ag then .no 4 else match oneRows k cs with
            | some l => okR pc (.int k (mkGetT pc (rowsOf l) c (.lit 0))) [.bi .le (.lit 0) c, .bi .lt c (.lit cs.length)] [] [h]
            | none => .no 4
        | _ => .no 4
      | _, _ => .no 4
    | some (.rows _ ks A), some ag, some s =>
      let n1 := E.bi .le (.lit 0) r
      let n2 := E.bi .lt r (mkLen pc A)
      match natLit c with
      | some j =>
        if ag then
          if j + s ≤ ks.length then match colsOf pc ks A r j s with
            | some l => okR pc (.agg l) [n1, n2] [] [h]
            | none => .no 5
          else match r, j, mkLen pc A with
            | .lit 0, 0, .lit n => match allCols pc ks A 0 n.toNat with
              | some l => if l.length = s then .ok { v := .agg l, rd := [h] } else .no 5
              | none => .no 5
            | _, _, _ => .no 5
        else match ks[j]? with
          | some k => okR pc (cellV pc k (mkGetT pc A r (.lit j))) [n1, n2] [] [h]
          | none => .no 6
      | none =>
        match ks with
        | k :: _ =>
          if !ag && allSame k ks then okR pc (cellV pc k (mkGetT pc A r c)) [n1, n2, .bi .le (.lit 0) c, .bi .lt c (.lit ks.length)] [] [h] else .no 7
        | [] => .no 8
    | _, _, _ => .no 9
  | _ => .no 10

def setCells (cs : List V) (c : Nat) : List V → List V
  | [] => cs
  | v :: vs => setCells (cs.set c v) (c + 1) vs

def setCols (ks : List CK) (A r : E) (j : Nat) : List V → Option E
  | [] => some A
  | v :: vs =>
    match ks[j]? with
    | some k => match cellE k v with
      | some e => setCols ks (.se A r (.lit j) e) r (j + 1) vs
      | none => none
    | none => none

def storeR (P : Program) (pc : List E) (H : List O) (t : TypeId) (x v : V) : Res :=
  match x, v.cellsOf, sizeT P t with
  | .ptr h r c, some vs, some s =>
    if vs.length ≠ s then .no 11 else
    match H[h]? with
    | some (.cells false cs) =>
      match r, natLit c with
      | .lit 0, some c => if c + s ≤ cs.length then .ok { v := .tup [], eff := [(h, .cells false (setCells cs c vs))], rd := [h] } else .no 12
      | _, _ => .no 13
    | some (.rows false ks A) =>
      let n1 := E.bi .le (.lit 0) r
      let n2 := E.bi .lt r (mkLen pc A)
      match natLit c with
      | some j => match setCols ks A r j vs with
        | some A' => okR pc (.tup []) [n1, n2] [(h, .rows false ks A')] [h]
        | none => .no 14
      | none =>
        match ks, vs with
        | k :: _, [v] =>
          if allSame k ks then match cellE k v with
            | some e => okR pc (.tup []) [n1, n2, .bi .le (.lit 0) c, .bi .lt c (.lit ks.length)] [(h, .rows false ks (.se A r c e))] [h]
            | none => .no 15
          else .no 15
        | _, _ => .no 15
    | _ => .no 16
  | _, _, _ => .no 17

def mkAnd (a b : E) : E :=
  match a, b with
  | .bl true, e => e
  | .bl false, _ => .bl false
  | c, .bl true => c
  | _, .bl false => .bl false
  | c, e => .bi .and c e

def mkBeq (pc : List E) (a b : E) : E :=
  match a, b with
  | .bl true, b => b
  | .bl false, b => mkC pc (mkNot b)
  | a, .bl true => a
  | a, .bl false => mkC pc (mkNot a)
  | a, b => .bi .beq a b

mutual
/-- equality of two values of a type, cell by cell -/
def eqT (P : Program) (pc : List E) : Nat → TypeId → List V → List V → Option E
  | 0, _, _, _ => none
  | d + 1, t, xs, ys =>
    match P.underlying t with
    | some (.int _) => match xs, ys with
      | [.int k a], [.int k' b] => if k = k' then some (mkC pc (.bi .eq a b)) else none
      | _, _ => none
    | some .bool => match xs, ys with
      | [.bool a], [.bool b] => some (mkBeq pc a b)
      | _, _ => none
    | some (.struct fs) => if P.stoodInHeld t then none else eqFs P pc d fs.toList xs ys
    | some (.array n e) => match sizeT P e with
      | some s => eqAs P pc d e s n 0 xs ys
      | none => none
    | _ => none
def eqFs (P : Program) (pc : List E) : Nat → List Field → List V → List V → Option E
  | 0, _, _, _ => none
  | _ + 1, [], _, _ => some (.bl true)
  | d + 1, f :: fs, xs, ys =>
    match sizeT P f.type with
    | some s =>
      if f.name = "_" ∨ xs.length < f.offset + s ∨ ys.length < f.offset + s then none else
      match eqT P pc d f.type ((xs.drop f.offset).take s) ((ys.drop f.offset).take s), eqFs P pc d fs xs ys with
      | some a, some b => some (mkAnd a b)
      | _, _ => none
    | none => none
def eqAs (P : Program) (pc : List E) : Nat → TypeId → Nat → Nat → Nat → List V → List V → Option E
  | 0, _, _, _, _, _, _ => none
  | _ + 1, _, _, 0, _, _, _ => some (.bl true)
  | d + 1, e, s, n + 1, i, xs, ys =>
    if xs.length < i * s + s ∨ ys.length < i * s + s then none else
    match eqT P pc d e ((xs.drop (i * s)).take s) ((ys.drop (i * s)).take s), eqAs P pc d e s n (i + 1) xs ys with
    | some a, some b => some (mkAnd a b)
    | _, _ => none
end

def binR (P : Program) (pc : List E) (op : BinOp) (t : TypeId) (x y : V) : Res :=
  match x, y with
  | .int k a, .int k' b =>
    match op with
    | .shl => okR pc (.int k (mkWrap pc k (match a, b with | .lit x, .lit y => .lit (x * 2 ^ (Nat.min y.toNat k.bits)) | a, .lit y => mkMul a (.lit (2 ^ (Nat.min y.toNat k.bits))) | a, b => .bi (.bit .shl k) a b))) [.bi .le (.lit 0) b] [] []
    | .shr => okR pc (.int k (match a, b with | .lit x, .lit y => .lit (bitsOp .shr k x y) | a, b => .bi (.bit .shr k) a b)) [.bi .le (.lit 0) b] [] []
    | _ =>
      if k ≠ k' then .no 20 else
      match op with
      | .add => .ok { v := .int k (mkWrap pc k (mkAdd a b)) }
      | .sub => .ok { v := .int k (mkWrap pc k (mkSub a b)) }
      | .mul => .ok { v := .int k (mkWrap pc k (mkMul a b)) }
      | .quo => okR pc (.int k (mkWrap pc k (mkQuo a b))) [.un .not (.bi .eq b (.lit 0))] [] []
      | .rem => okR pc (.int k (mkRem pc a b)) [.un .not (.bi .eq b (.lit 0))] [] []
      | .and | .or | .xor | .andNot => .ok { v := .int k (match a, b with | .lit x, .lit y => .lit (bitsOp op k x y) | a, b => .bi (.bit op k) a b) }
      | .eql => .ok { v := .bool (mkC pc (.bi .eq a b)) }
      | .neq => .ok { v := .bool (mkC pc (mkNot (.bi .eq a b))) }
      | .lss => .ok { v := .bool (mkC pc (.bi .lt a b)) }
      | .leq => .ok { v := .bool (mkC pc (.bi .le a b)) }
      | .gtr => .ok { v := .bool (mkC pc (.bi .lt b a)) }
      | .geq => .ok { v := .bool (mkC pc (.bi .le b a)) }
      | _ => .no 21
  | .bool a, .bool b =>
    match op, P.underlying t with
    | .eql, some .bool => .ok { v := .bool (mkBeq pc a b) }
    | .neq, some .bool => .ok { v := .bool (mkC pc (mkNot (mkBeq pc a b))) }
    | _, _ => .no 22
  | .agg xs, .agg ys =>
    if P.eqGuardType P.depth t || isAggT P t != some true then .no 24 else
    match eqT P pc 40 t xs ys with
    | some e =>
      match op with
      | .eql => .ok { v := .bool e }
      | .neq => .ok { v := .bool (mkC pc (mkNot e)) }
      | _ => .no 23
    | none => .no 24
  | .slice _ _ _ n _, .nils =>
    match op, P.underlying t with
    | .eql, some (.slice _) => okR pc (.bool (.bl false)) [.un .not (.bi .eq n (.lit 0))] [] []
    | .neq, some (.slice _) => okR pc (.bool (.bl true)) [.un .not (.bi .eq n (.lit 0))] [] []
    | _, _ => .no 25
  | .nils, .nils =>
    match op, P.underlying t with
    | .eql, some (.slice _) => .ok { v := .bool (.bl true) }
    | .neq, some (.slice _) => .ok { v := .bool (.bl false) }
    | _, _ => .no 25
  | _, _ => .no 25

def unR (pc : List E) (op : UnOp) (x : V) : Res :=
  match op, x with
  | .neg, .int k a => .ok { v := .int k (mkWrap pc k (mkSub (.lit 0) a)) }
  | .not, .bool a => .ok { v := .bool (mkC pc (mkNot a)) }
  | _, _ => .no 26

def pickR (pc : List E) (c a b : V) : Res :=
  match c with
  | .bool c =>
    match decC pc c with
    | some true => .ok { v := a }
    | some false => .ok { v := b }
    | none =>
      match a, b with
      | .bool x, .bool y =>
        match x, y with
        | x, .bl false => .ok { v := .bool (.bi .and c x) }
        | .bl true, y => .ok { v := .bool (.bi .or c y) }
        | x, y => .ok { v := .bool (.te .ite c x y) }
      | .int k x, .int k' y => if k = k' then .ok { v := .int k (.te .ite c x y) } else .ask c
      | _, _ => .ask c
  | _ => .no 27

def placeOf (P : Program) (t : TypeId) (i : Nat) : Option (Nat × Nat) :=
  match P.underlying t with
  | some (.struct fs) => match fs[i]? with
    | some f => (sizeT P f.type).map fun s => (f.offset, s)
    | none => none
  | some (.array _ e) => (sizeT P e).map fun s => (i * s, s)
  | some (.slice e) => (sizeT P e).map fun s => (i * s, s)
  | _ => none

def fillV (P : Program) (t : TypeId) (cs : List V) : List (Nat × V) → Option (List V)
  | [] => some cs
  | (i, v) :: ps =>
    match placeOf P t i, v.cellsOf with
    | some (off, s), some vs => if vs.length = s ∧ off + s ≤ cs.length then fillV P t (setCells cs off vs) ps else none
    | _, _ => none

def zeroCellsV (P : Program) (t : TypeId) : Option (List V) :=
  match P.info? t with
  | some i => match i.zero with
    | some z => (constV z).cellsOf
    | none => none
  | none => none

def buildR (P : Program) (t : TypeId) (ps : List (Nat × V)) : Res :=
  match zeroCellsV P t, P.underlying t with
  | some z, some (.struct fs) => if !(fs.toList.all fun f => (sizeT P f.type).isSome) then .no 28 else match fillV P t z ps with
    | some cs => .ok { v := .agg cs }
    | none => .no 28
  | some z, some (.array _ e) => if !(sizeT P e).isSome then .no 28 else match fillV P t z ps with
    | some cs => .ok { v := .agg cs }
    | none => .no 28
  | _, _ => .no 29

def repeatL (z : List V) : Nat → List V
  | 0 => []
  | n + 1 => z ++ repeatL z n

def buildSliceR (P : Program) (fr : Nat) (t : TypeId) (len : Nat) (ps : List (Nat × V)) : Res :=
  match P.underlying t with
  | some (.slice e) =>
    match zeroCellsV P e, sizeT P e with
    | some z, some s =>
      if z.length ≠ s ∨ s = 0 ∨ 16777216 < len * s then .no 30 else
      if len = 0 then match ps with
        | [] => .ok { v := .slice fr s (.lit 0) (.lit 0) (some (.lit 0)), eff := [(fr, .cells false [])] }
        | _ => .no 30
      else
      match fillV P t (repeatL z len) ps with
      | some cs => .ok { v := .slice fr s (.lit 0) (.lit len) (some (.lit len)), eff := [(fr, .cells false cs)] }
      | none => .no 31
    | _, _ => .no 32
  | _ => .no 33

def allocR (P : Program) (fr : Nat) (t : TypeId) : Res :=
  match zeroCellsV P t with
  | some z => .ok { v := .ptr fr (.lit 0) (.lit 0), eff := [(fr, .cells false z)] }
  | none => .no 34

def boxR (fr : Nat) (x : V) : Res :=
  match x.cellsOf with
  | some cs => .ok { v := .ptr fr (.lit 0) (.lit 0), eff := [(fr, .cells false cs)] }
  | none => .no 35

def partR (P : Program) (t : TypeId) (cs : List V) (off : Nat) : Res :=
  match isAggT P t, sizeT P t with
  | some true, some s => if off + s ≤ cs.length then .ok { v := .agg ((cs.drop off).take s) } else .no 36
  | some false, some _ => match cs[off]? with
    | some v => .ok { v }
    | none => .no 37
  | _, _ => .no 38

def fieldR (P : Program) (t : TypeId) (x : V) (i : Nat) : Res :=
  match x, P.underlying t with
  | .agg cs, some (.struct fs) => match fs[i]? with
    | some f => partR P f.type cs f.offset
    | none => .no 39
  | _, _ => .no 40

def fieldAddrR (P : Program) (t : TypeId) (x : V) (i : Nat) : Res :=
  match x, P.underlying t with
  | .ptr h r c, some (.struct fs) => match fs[i]? with
    | some f => match sizeT P f.type with
      | some s => if s = 0 then .no 41 else .ok { v := .ptr h r (plus c f.offset) }
      | none => .no 41
    | none => .no 41
  | _, _ => .no 42

/-- the width of the rows behind a handle, if it is a list of rows -/
def rowW (H : List O) (h : Nat) : Option Nat :=
  match H[h]? with
  | some (.rows _ ks _) => some ks.length
  | _ => none

def indexAddrR (P : Program) (pc : List E) (H : List O) (t : TypeId) (x ix : V) : Res :=
  match ix with
  | .int _ i =>
    match P.underlying t, x with
    | some (.array n e), .ptr h r c =>
      match sizeT P e with
      | some s =>
        if n = 0 then .no 43 else
        okR pc (if rowW H h = some s && c.same (.lit 0) then .ptr h (mkAdd r i) (.lit 0) else .ptr h r (mkAdd c (mkMul i (.lit s)))) [.bi .le (.lit 0) i, .bi .lt i (.lit n)] [] [h]
      | none => .no 44
    | some (.slice e), .slice h w off len _ =>
      match sizeT P e with
      | some s =>
        if s ≠ w then .no 45 else
        okR pc (if rowW H h = some s then .ptr h (mkAdd off i) (.lit 0) else .ptr h (.lit 0) (mkMul (mkAdd off i) (.lit s))) [.bi .le (.lit 0) i, .bi .lt i len] [] [h]
      | none => .no 46
    | _, _ => .no 47
  | _ => .no 48

def indexR (P : Program) (pc : List E) (t : TypeId) (x ix : V) : Res :=
  match x, ix, P.underlying t with
  | .agg cs, .int _ i, some (.array n e) =>
    match sizeT P e with
    | some s =>
      match i with
      | .lit i => if 0 ≤ i ∧ i < n then partR P e cs (i.toNat * s) else .no 49
      | i =>
        if s = 1 && cs.length == n && isAggT P e == some false then
          match cs with
          | .int k _ :: _ =>
            match oneRows k cs with
            | some l => okR pc (.int k (mkGetT pc (rowsOf l) i (.lit 0))) [.bi .le (.lit 0) i, .bi .lt i (.lit n)] [] []
            | none => .no 50
          | _ => .no 51
        else .no 52
    | none => .no 53
  | _, _, _ => .no 54

def boundE : Option V → E → Option E
  | none, d => some d
  | some (.int _ e), _ => some e
  | _, _ => none

/-- x[lo:hi] -/
def sliceR (P : Program) (pc : List E) (H : List O) (t : TypeId) (x : V) (lo hi mx : Option V) : Res :=
  match mx with
  | some _ => .no 55
  | none =>
    match P.underlying t, x with
    | some (.slice e), .slice h w off len cap =>
      match sizeT P e, boundE lo (.lit 0), boundE hi len with
      | some s, some l, some u =>
        if s ≠ w then .no 56 else
        -- the upper bound must be within the length or a known capacity
        okR pc (.slice h w (mkAdd off l) (mkSub u l) (cap.map fun c => mkSub c l)) [.bi .le (.lit 0) l, .bi .le l u, .bi .le u (match cap with | some c => c | none => len)] [] []
      | _, _, _ => .no 57
    | some (.slice e), .nils =>
      match sizeT P e, boundE lo (.lit 0), boundE hi (.lit 0) with
      | some _, some l, some u => okR pc .nils [.bi .eq l (.lit 0), .bi .eq u (.lit 0)] [] []
      | _, _, _ => .no 58
    | some (.array n e), .ptr h r c =>
      match sizeT P e, boundE lo (.lit 0), boundE hi (.lit n), r, natLit c, H[h]? with
      | some s, some l, some u, .lit 0, some c0, some (.cells _ cs) =>
        if s = 0 ∨ c0 % s ≠ 0 ∨ cs.length < c0 + n * s then .no 59 else
        okR pc (.slice h s (mkAdd (.lit (c0 / s : Nat)) l) (mkSub u l) (some (mkSub (.lit n) l))) [.bi .le (.lit 0) l, .bi .le l u, .bi .le u (.lit n)] [] [h]
      | _, _, _, _, _, _ => .no 60
    | _, _ => .no 61

def makeSliceR (P : Program) (pc : List E) (fr : Nat) (t : TypeId) (l c : V) : Res :=
  match P.underlying t, l, c with
  | some (.slice e), .int _ l, .int _ c =>
    match P.info? e, zeroCellsV P e with
    | some i, some z =>
      if z.length ≠ i.size ∨ i.size = 0 then .no 62 else
      match l, c with
      | .lit l, .lit c =>
        if 0 ≤ l ∧ l ≤ c ∧ c ≤ 1048576 ∧ i.bytes * c ≤ 281474976710656 then
          .ok { v := .slice fr i.size (.lit 0) (.lit l) (some (.lit c)), eff := [(fr, .cells false (repeatL z c.toNat))] }
        else .no 63
      | l, c =>
        match z.mapM (fun v => match v with | .int _ e => some e | .bool e => some (b2i e) | _ => none), z.mapM (fun v => match v with | .int k _ => some (CK.int k) | .bool _ => some CK.bool | _ => none) with
        | some r, some ks => okR pc (.slice fr i.size (.lit 0) l (some c)) [.bi .le (.lit 0) l, .bi .le l c, .bi .le c (.lit (1048576 : Int)), .bl (decide (i.bytes ≤ 65536))] [(fr, .rows false ks (.bi .rep c (rowOf r)))] []
        | _, _ => .no 65
    | _, _ => .no 66
  | _, _, _ => .no 67

/-- The rows that a slice shows: their kinds and the list. -/
def shown (pc : List E) (H : List O) : V → Option (List CK × E × List E)
  | .slice h w off len _ =>
    match H[h]? with
    | some (.rows _ ks A) =>
      if w = ks.length then some (ks, mkTake pc (mkDrop pc A off) (if off.same (.lit 0) && len.same (mkLen pc A) then .un .len A else len), [.bi .le (mkAdd off len) (mkLen pc A)]) else none
    | _ => none
  | _ => none

def kindOf : V → Option CK
  | .int k _ => some (.int k)
  | .bool _ => some .bool
  | _ => none

/-- one row's numbers out of its cells -/
def rowCells : List CK → List V → Option (List E)
  | [], [] => some []
  | k :: ks, v :: vs =>
    match cellE k v, rowCells ks vs with
    | some e, some l => some (e :: l)
    | _, _ => none
  | _, _ => none

def rowsOfCells (ks : List CK) : Nat → List V → Option (List E)
  | _, [] => some []
  | 0, _ :: _ => none
  | n + 1, v :: vs =>
    match rowCells ks ((v :: vs).take ks.length), rowsOfCells ks n ((v :: vs).drop ks.length) with
    | some r, some l => some (rowOf r :: l)
    | _, _ => none

/-- The cells that a slice shows, where all is written out. -/
def shownCells (H : List O) : V → Option (List V)
  | .slice h w off len _ =>
    match H[h]?, natLit off, natLit len with
    | some (.cells _ cs), some o, some n => if (o + n) * w ≤ cs.length ∧ ((cs.drop (o * w)).take (n * w)).all V.isAtom = true then some ((cs.drop (o * w)).take (n * w)) else none
    | _, _, _ => none
  | _ => none

/-- the bound on bytes that an append or a make must keep, in elements -/
def roomE (bytes : Nat) (n : E) : List E := [.bi .le n (.lit ((140737488355328 / (bytes + 1) : Nat) : Int))]

/-- a list of rows is its whole capacity, and what is appended fits into it -/
def inPlace (pc : List E) (A len lenx : E) (cap : Option E) : Option E :=
  match cap with
  | some c => if decEq' pc (mkLen pc A) c = some true ∧ decLe pc (mkAdd len lenx) c = some true ∧ decLe pc (.lit 1) c = some true then some c else none
  | none => none
def splice (pc : List E) (A len lenx B : E) : E := mkApp (mkApp (mkTake pc A len) B) (mkDrop pc A (mkAdd len lenx))

def appendR (P : Program) (pc : List E) (H : List O) (fr : Nat) (t t2 : TypeId) (s x : V) : Res :=
  if t ≠ t2 then .no 70 else
  match P.underlying t with
  | some (.slice e) =>
    match P.info? e, zeroCellsV P e with
    | some i, some z =>
      if z.length ≠ i.size ∨ i.size = 0 then .no 71 else
      match x with
      | .nils => match s with
        | .nils => .ok { v := .nils }
        | .slice h w o n c => .ok { v := .slice h w o n c }
        | _ => .no 73
      | .slice hx wx _ lenx _ =>
        if wx ≠ i.size then .no 72 else
        match s with
        | .nils =>
          match shownCells H x, natLit lenx with
          | some cs, some m =>
            if m = 0 then .ok { v := .nils, rd := [hx] } else
            okR pc (.slice fr i.size (.lit 0) (.lit m) none) (roomE i.bytes (.lit m)) [(fr, .cells false cs)] [hx]
          | _, _ =>
            match shown pc H x with
            | some (ks, B, ns) => okR pc (.slice fr i.size (.lit 0) (mkLen pc B) none) (ns ++ roomE i.bytes lenx) [(fr, .rows false ks B)] [hx]
            | none => .no 74
        | .slice h ws off len cap =>
          if ws ≠ i.size ∨ !off.same (.lit 0) then .no 75 else
          match H[h]? with
          | some (.cells false cs) =>
            match shownCells H s, natLit len with
            | some old, some n =>
              match shownCells H x, natLit lenx with
              | some new, some m =>
                match cap with
                | some (.lit c) =>
                  if ((n + m : Nat) : Int) ≤ c then
                    if (n + m) * ws ≤ cs.length then .ok { v := .slice h ws (.lit 0) (.lit (n + m : Nat)) cap, eff := [(h, .cells false (setCells cs (n * ws) new))], rd := [h, hx] } else .no 76
                  else okR pc (.slice fr ws (.lit 0) (.lit (n + m : Nat)) none) (roomE i.bytes (.lit (n + m : Nat))) [(fr, .cells false (old ++ new))] [h, hx]
                | _ =>
                  if h = hx ∨ old.length ≠ cs.length then .no 77 else
                  okR pc (.slice fr ws (.lit 0) (.lit (n + m : Nat)) none) (roomE i.bytes (.lit (n + m : Nat))) [(h, .dead), (fr, .cells false (old ++ new))] [h, hx]
              | _, _ =>
                -- a list of unknown length behind a written one
                match shown pc H x with
                | some (ks, B, ns) =>
                  if h = hx ∨ old.length ≠ cs.length ∨ ks.length ≠ ws then .no 78 else
                  match rowsOfCells ks old.length old with
                  | some l => okR pc (.slice fr ws (.lit 0) (mkLen pc (mkApp (rowsOf l) B)) none) (ns ++ roomE i.bytes (mkAdd (.lit n) lenx)) [(h, .dead), (fr, .rows false ks (mkApp (rowsOf l) B))] [h, hx]
                  | none => .no 79
                | none => .no 80
            | _, _ => .no 81
          | some (.rows false ks A) =>
            if h = hx ∨ ks.length ≠ ws then .no 82 else
            match inPlace pc A len lenx cap with
            | some c =>
              match shownCells H x, natLit lenx with
              | some new, some _ =>
                match rowsOfCells ks new.length new with
                | some l => okR pc (.slice h ws (.lit 0) (mkAdd len lenx) (some c)) [.bi .le (.lit 0) len] [(h, .rows false ks (splice pc A len lenx (rowsOf l)))] [h, hx]
                | none => .no 84
              | _, _ =>
                match shown pc H x with
                | some (ks', B, ns) =>
                  if ks' ≠ ks then .no 85 else
                  okR pc (.slice h ws (.lit 0) (mkAdd len lenx) (some c)) (.bi .le (.lit 0) len :: ns) [(h, .rows false ks (splice pc A len lenx B))] [h, hx]
                | none => .no 86
            | none =>
            match shownCells H x, natLit lenx with
            | some new, some m =>
              match rowsOfCells ks new.length new with
              | some l => okR pc (.slice fr ws (.lit 0) (mkLen pc (l.foldl mkSnoc A)) none) (.bi .eq len (mkLen pc A) :: roomE i.bytes (plus (mkLen pc A) m)) [(h, .dead), (fr, .rows false ks (l.foldl mkSnoc A))] [h, hx]
              | none => .no 84
            | _, _ =>
              match shown pc H x with
              | some (ks', B, ns) =>
                if ks' ≠ ks then .no 85 else
                okR pc (.slice fr ws (.lit 0) (mkLen pc (mkApp A B)) none) (.bi .eq len (mkLen pc A) :: (ns ++ roomE i.bytes (mkAdd (mkLen pc A) lenx))) [(h, .dead), (fr, .rows false ks (mkApp A B))] [h, hx]
              | none => .no 86
          | _ => .no 87
        | _ => .no 88
      | _ => .no 89
    | _, _ => .no 90
  | _ => .no 91

/-- append of m zeros: append(s, make([]T, m)...) -/
def appendZ (P : Program) (pc : List E) (H : List O) (fr : Nat) (t : TypeId) (s : V) (m : Nat) : Res :=
  match P.underlying t with
  | some (.slice e) =>
    match P.info? e, zeroCellsV P e with
    | some i, some z =>
      if z.length ≠ i.size ∨ i.size = 0 ∨ m = 0 then .no 71 else
      match s with
      | .nils => okR pc (.slice fr i.size (.lit 0) (.lit m) none) (roomE i.bytes (.lit m)) [(fr, .cells false (repeatL z m))] []
      | .slice h ws off len (some (.lit c)) =>
        if ws ≠ i.size then .no 75 else
        match shownCells H (.slice h ws off len (some (.lit c))), natLit len with
        | some old, some n =>
          if c < ((n + m : Nat) : Int) then okR pc (.slice fr ws (.lit 0) (.lit (n + m : Nat)) none) (roomE i.bytes (.lit (n + m : Nat))) [(fr, .cells false (old ++ repeatL z m))] [h] else .no 76
        | _, _ => .no 77
      | _ => .no 78
    | _, _ => .no 79
  | _ => .no 79

def lenR (P : Program) (H : List O) (t : TypeId) (x : V) : Res :=
  match P.underlying t, x with
  | some (.slice _), .slice _ _ _ n _ => .ok { v := .int .i64 n }
  | some (.slice _), .nils => .ok { v := .int .i64 (.lit 0) }
  | some (.array n _), _ => .ok { v := .int .i64 (.lit n) }
  | some (.pointer a), _ => match P.underlying a with
    | some (.array n _) => .ok { v := .int .i64 (.lit n) }
    | _ => .no 92
  | some (.map _ _), .nilm => .ok { v := .int .i64 (.lit 0) }
  | some (.map _ _), .map h => match H[h]? with
    | some (.amap _ _ _ _ A) => .ok { v := .int .i64 (mkLen [] A), rd := [h] }
    | _ => .no 93
  | _, _ => .no 94

def minmaxR (pc : List E) (f : List E → E → E → E) : V → List V → Res
  | v, [] => .ok { v }
  | .int k a, .int k' b :: l => if k = k' then minmaxR pc f (.int k (f pc a b)) l else .no 95
  | _, _ => .no 96

/-- a row of zeros: its numbers and kinds -/
def zeroRow (z : List V) : Option (List E × List CK) :=
  match z.mapM (fun v => match v with | .int _ e => some e | .bool e => some (b2i e) | _ => none), z.mapM (fun v => match v with | .int k _ => some (CK.int k) | .bool _ => some CK.bool | _ => none) with
  | some r, some ks => some (r, ks)
  | _, _ => none
/-- clear(x), of a list -/
def clearR (P : Program) (pc : List E) (H : List O) (t : TypeId) (x : V) : Res :=
  match P.underlying t, x with
  | some (.slice _), .nils => .ok { v := .tup [] }
  | some (.slice e), .slice h w o n _ =>
    match H[h]?, P.info? e, zeroCellsV P e with
    | some (.rows false ks A), some i, some z =>
      if w ≠ ks.length ∨ z.length ≠ i.size ∨ i.size ≠ w then .no 150 else
      match zeroRow z with
      | some (r, ks') => if ks' ≠ ks then .no 151 else okR pc (.tup []) [.bi .le (mkAdd o n) (mkLen pc A)] [(h, .rows false ks (splice pc A o n (.bi .rep n (rowOf r))))] [h]
      | none => .no 152
    | _, _, _ => .no 153
  | _, _ => .no 154

def builtinR (P : Program) (pc : List E) (H : List O) (fr : Nat) (b : Builtin) (ts : List TypeId) (args : List V) : Res :=
  match b, ts, args with
  | .len, t :: _, x :: _ => lenR P H t x
  | .append, [t, t2], [s, x] =>
    match P.underlying t2, x with
    | some (.int _), .int _ (.lit m) => if 0 ≤ m ∧ m ≤ 1048576 then appendZ P pc H fr t s m.toNat else .no 70
    | _, _ => appendR P pc H fr t t2 s x
  | .min, _, x :: l => match x with
    | .int _ _ => minmaxR pc mkMin x l
    | _ => .no 97
  | .max, _, x :: l => match x with
    | .int _ _ => minmaxR pc mkMax x l
    | _ => .no 97
  | .clear, t :: _, x :: _ => clearR P pc H t x
  | _, _, _ => .no 98

/-! ### maps -/

/-- a zero cell's kind -/
def zeroK : Value → Option CK
  | .int k n => if n = 0 then some (.int k) else none
  | .bool b => if b then none else some .bool
  | _ => none

def zeroKs : List Value → Option (List CK)
  | [] => some []
  | v :: vs => match zeroK v, zeroKs vs with
    | some k, some ks => some (k :: ks)
    | _, _ => none

/-- The kinds of the cells of a flat type (no pointers, slices, functions), and whether it is an aggregate. -/
def flatT (P : Program) (t : TypeId) : Option (List CK × Bool) :=
  match P.info? t with
  | some i => match i.zero, isAggT P t with
    | some (.agg xs), some true => (zeroKs xs.toList).map (·, true)
    | some v, some false => (zeroK v).map ([·], false)
    | _, _ => none
  | none => none

def isIntK : CK → Bool
  | .int _ => true
  | .bool => false

/-- what the equality of two keys must come to -/
def canonE (w : Nat) : Nat → Nat → E
  | 0, _ => .bl true
  | n + 1, i => mkAnd (.bi .eq (.var i) (.var (w + i))) (canonE w n (i + 1))

def varsV (ks : List CK) (i : Nat) : List V :=
  match ks with
  | [] => []
  | .int k :: ks => .int k (.var i) :: varsV ks (i + 1)
  | .bool :: ks => .bool (.var i) :: varsV ks (i + 1)

/-- a key's parts, one after the other, are numbers -/
def keyParts (P : Program) (t : TypeId) (w : Nat) : Bool :=
  match P.underlying t with
  | some (.int _) => decide (w = 1)
  | some (.array n e) => (match P.underlying e with | some (.int _) => true | _ => false) && decide (sizeT P e = some 1) && decide (n ≤ w)
  | some (.struct fs) => fs.toList.all fun f => decide (f.name ≠ "_") && (match P.underlying f.type with | some (.int _) => true | _ => false) && decide (sizeT P f.type = some 1) && decide (f.offset + 1 ≤ w)
  | _ => false

def keyEq (P : Program) (t : TypeId) (ks : List CK) : Bool :=
  match eqT P [] 20 t (varsV ks 0) (varsV ks ks.length) with
  | some e => e.same (canonE ks.length ks.length 0)
  | none => false

/-- The cells of a key, and whether it is an aggregate; nothing if such keys are not looked at. -/
def keyT (P : Program) (t : TypeId) : Option (List CK × Bool) :=
  match flatT P t with
  | some (ks, ag) =>
    if ks.all isIntK && decide (0 < ks.length) && keyParts P t ks.length && keyEq P t ks then some (ks, ag) else none
  | none => none

/-- A map's type: its keys, its values. -/
def mapT (P : Program) (t : TypeId) : Option ((List CK × Bool) × (List CK × Bool)) :=
  match P.underlying t with
  | some (.map k e) => match keyT P k, flatT P e with
    | some a, some b => some (a, b)
    | _, _ => none
  | _ => none

def asV (ag : Bool) (vs : List V) : V := if ag then .agg vs else vs.headD .junk

/-- a value as a row of numbers -/
def rowV (ks : List CK) (ag : Bool) (v : V) : Option (List E) :=
  match v.cellsOf with
  | some vs => if (match v with | .agg _ => ag | _ => !ag) then rowCells ks vs else none
  | none => none

def makeMapR (P : Program) (fr : Nat) (t : TypeId) : Res :=
  match mapT P t with
  | some ((ks, ka), (vs, va)) => .ok { v := .map fr, eff := [(fr, .amap ks vs ka va .nil)] }
  | none => .no 110

def lookupR (P : Program) (pc : List E) (H : List O) (t : TypeId) (x k : V) (c : Bool) : Res :=
  match x with
  | .map h => match H[h]?, mapT P t with
    | some (.amap ks vs ka va A), some ((ks', ka'), (vs', va')) =>
      if ks = ks' ∧ vs = vs' ∧ ka = ka' ∧ va = va' then
        match rowV ks ka k with
        | some r =>
          let i := mkFind pc A (rowOf r)
          match colsOf pc (ks ++ vs) A i ks.length vs.length with
          | some cs => .ok { v := if c then .tup [asV va cs, .bool (mkC pc (.bi .lt i (mkLen pc A)))] else asV va cs, rd := [h] }
          | none => .no 111
        | none => .no 112
      else .no 113
    | _, _ => .no 114
  | _ => .no 115

def mapPutR (P : Program) (pc : List E) (H : List O) (t : TypeId) (x k v : V) : Res :=
  match x with
  | .map h => match H[h]?, mapT P t with
    | some (.amap ks vs ka va A), some ((ks', ka'), (vs', va')) =>
      if ks = ks' ∧ vs = vs' ∧ ka = ka' ∧ va = va' then
        match rowV ks ka k, rowV vs va v with
        | some r, some q => .ok { v := .tup [], eff := [(h, .amap ks vs ka va (mkPut pc A (rowOf r) (rowOf (r ++ q))))], rd := [h] }
        | _, _ => .no 116
      else .no 117
    | _, _ => .no 118
  | _ => .no 119

def mapEntryR (P : Program) (pc : List E) (H : List O) (t : TypeId) (x k : V) : Res :=
  match x with
  | .map h => match H[h]?, mapT P t with
    | some (.amap ks vs ka va A), some ((ks', ka'), (vs', va')) =>
      if ks = ks' ∧ vs = vs' ∧ ka = ka' ∧ va = va' then
        match rowV ks ka k with
        | some r =>
          match colsOf pc (ks ++ vs) A (.bi .find A (rowOf r)) ks.length vs.length with
          | some cs => .ok { v := .tup [asV va cs, .int .i64 (.bi .find A (rowOf r))], eff := [(h, .amap ks vs ka va (.te .ent A (rowOf r) (rowOf (r ++ List.replicate vs.length (.lit 0)))))], rd := [h] }
          | none => .no 121
        | none => .no 122
      else .no 123
    | _, _ => .no 124
  | _ => .no 125

def cellsR : E → Option (List E)
  | .nil => some []
  | .bi .cons a r => (cellsR r).map (a :: ·)
  | _ => none

def samePre : List E → List E → Bool
  | [], _ => true
  | a :: l, b :: m => a.same b && samePre l m
  | _, _ => false

def entryStoreR (_P : Program) (pc : List E) (H : List O) (x s v : V) : Res :=
  match x, s with
  | .map h, .int .i64 (.bi .find A0 k0) => match H[h]? with
    | some (.amap ks vs ka va (.te .ent A k row)) =>
      if A0.same A && k0.same k then
        match cellsR k, cellsR row, rowV vs va v with
        | some r, some rr, some q => if r.length = ks.length ∧ samePre r rr = true then .ok { v := .tup [], eff := [(h, .amap ks vs ka va (mkPut pc A k (rowOf (r ++ q))))], rd := [h] } else .no 126
        | _, _, _ => .no 126
      else .no 127
    | _ => .no 128
  | _, _ => .no 129

/-- the rows of a list that stands there row by row -/
def rowsL : E → Option Nat
  | .nil => some 0
  | .bi .row _ A => (rowsL A).map (· + 1)
  | _ => none

def rangeR (P : Program) (H : List O) (fr : Nat) (t : TypeId) (x : V) : Res :=
  match P.underlying t, x with
  | some (.map _ _), .map h => match H[h]? with
    | some (.amap _ _ _ _ A) => match rowsL A with
      | some n => .ok { v := .ptr fr (.lit 0) (.lit 0), eff := [(fr, .iter (some h) n [] n)], rd := [h] }
      | none => .no 130
    | _ => .no 131
  | _, _ => .no 132

def allSome {α : Type} : List (Option α) → Option (List α)
  | [] => some []
  | some a :: l => (allSome l).map (a :: ·)
  | none :: _ => none

/-- one more step of an iterator, to the entry i -/
def nextAt (pc : List E) (ks vs : List CK) (ka va : Bool) (A : E) (g h n : Nat) (seen : List Nat) (i : Nat) : Option AR :=
  match colsOf pc (ks ++ vs) A (.lit i) 0 ks.length, colsOf pc (ks ++ vs) A (.lit i) ks.length vs.length with
  | some a, some b => some { v := .tup [.bool (.bl true), asV ka a, asV va b], eff := [(g, .iter (some h) n (seen ++ [i]) n)], rd := [g, h] }
  | _, _ => none

def nextR (pc : List E) (H : List O) (x : V) : Res :=
  match x with
  | .ptr g (.lit 0) (.lit 0) => match H[g]? with
    | some (.iter (some h) n seen m) => match H[h]? with
      | some (.amap ks vs ka va A) =>
        if rowsL A = some n ∧ m = n ∧ 0 < n then
          let left := (List.range n).filter fun i => !seen.contains i
          if left.isEmpty then .ok { v := .tup [.bool (.bl false)], rd := [g, h] }
          else match allSome (left.map (nextAt pc ks vs ka va A g h n seen)) with
            | some rs => .any rs
            | none => .no 133
        else .no 134
      | _ => .no 135
    | _ => .no 136
  | _ => .no 137

/-- the entry that an iterator stands at -/
def entryR (pc : List E) (H : List O) (x : V) : Res :=
  match x with
  | .ptr g (.lit 0) (.lit 0) => match H[g]? with
    | some (.iter (some h) n seen m) => match H[h]?, seen.getLast? with
      | some (.amap ks vs ka va A), some i =>
        if rowsL A = some n ∧ m = n ∧ i < n then
          match colsOf pc (ks ++ vs) A (.lit i) 0 ks.length, colsOf pc (ks ++ vs) A (.lit i) ks.length vs.length with
          | some a, some b => .ok { v := .tup [asV ka a, asV va b], rd := [g, h] }
          | _, _ => .no 138
        else .no 139
      | _, _ => .no 140
    | _ => .no 141
  | _ => .no 142

/-! ### a cell by a number that is not known: it is asked which one -/
def strideE : E → Nat × Nat
  | .bi .mul _ (.lit s) => (s.toNat, 0)
  | .bi .add (.bi .mul _ (.lit s)) (.lit k) => (s.toNat, k.toNat)
  | _ => (1, 0)
def whichAt (pc : List E) (c : E) : List Nat → Option (Nat ⊕ E)
  | [] => none
  | j :: js => match decC pc (.bi .eq c (.lit j)) with
    | some true => some (.inl j)
    | some false => whichAt pc c js
    | none => some (.inr (.bi .eq c (.lit j)))
def pinP (P : Program) (pc : List E) (H : List O) (t : TypeId) (x : V) : Option (V ⊕ E) :=
  match x with
  | .ptr h (.lit 0) c => match H[h]?, sizeT P t, natLit c with
    | some (.cells _ cs), some s, none =>
      match whichAt pc c (((List.range (cs.length / max 1 (strideE c).1 + 1)).map fun j => j * max 1 (strideE c).1 + (strideE c).2).filter fun j => decide (j + s ≤ cs.length)) with
      | some (.inl j) => some (.inl (.ptr h (.lit 0) (.lit j)))
      | some (.inr e) => some (.inr e)
      | none => none
    | _, _, _ => none
  | _ => none
def loadP' (P : Program) (pc : List E) (H : List O) (t : TypeId) (x : V) : Res :=
  match loadR P pc H t x with
  | .no n => match pinP P pc H t x with
    | some (.inl x') => loadR P pc H t x'
    | some (.inr c) => .ask c
    | none => .no n
  | r => r
def storeP' (P : Program) (pc : List E) (H : List O) (t : TypeId) (x v : V) : Res :=
  match storeR P pc H t x v with
  | .no n => match pinP P pc H t x with
    | some (.inl x') => storeR P pc H t x' v
    | some (.inr c) => .ask c
    | none => .no n
  | r => r

/-- an element of a value by a number that is not known -/
def indexP' (P : Program) (pc : List E) (t : TypeId) (x ix : V) : Res :=
  match indexR P pc t x ix with
  | .no m => match ix, P.underlying t with
    | .int k e, some (.array n _) => match natLit e with
      | some _ => .no m
      | none => match whichAt pc e (List.range n) with
        | some (.inl j) => indexR P pc t x (.int k (.lit j))
        | some (.inr c) => .ask c
        | none => .no m
    | _, _ => .no m
  | r => r

/-- One operation that is no call of a function. -/
def opR (P : Program) (gl : List (Nat × Nat)) (pc : List E) (H : List O) (fr : Nat) (tmps : List V) (op : Op) : Res :=
  let ev := evalO gl tmps
  match op with
  | .move x | .assign x => .ok { v := ev x }
  | .pick c a b => pickR pc (ev c) (ev a) (ev b)
  | .alloc t => allocR P fr t
  | .box _ x => boxR fr (ev x)
  | .build t ps => buildR P t (ps.toList.map fun (i, x) => (i, ev x))
  | .buildSlice t n ps => buildSliceR P fr t n (ps.toList.map fun (i, x) => (i, ev x))
  | .load t a => loadP' P pc H t (ev a)
  | .store t a x => storeP' P pc H t (ev a) (ev x)
  | .nilCheck x => match ev x with
    | .ptr h r c => .ok { v := .ptr h r c }
    | .func f cs => .ok { v := .func f cs }
    | .slice h w o n c => .ok { v := .slice h w o n c }
    | .map h => .ok { v := .map h }
    | _ => .no 99
  | .binOp op t x y _ => binR P pc op t (ev x) (ev y)
  | .unOp op _ x => unR pc op (ev x)
  | .convert s d x => match P.underlying s, P.underlying d, ev x with
    | some _, some (.int k), .int _ e => .ok { v := .int k (mkWrap pc k e) }
    | _, _, _ => .no 100
  | .makeFunc fn first caps => match fn with
    | .func f => if first.toList.isEmpty then .ok { v := .func f (caps.toList.map ev) } else .no 101
    | _ => .no 101
  | .makeSlice t l c => makeSliceR P pc fr t (ev l) (ev c)
  | .slice t x lo hi mx => sliceR P pc H t (ev x) (lo.map ev) (hi.map ev) (mx.map ev)
  | .fieldAddr t x i => fieldAddrR P t (ev x) i
  | .field t x i => fieldR P t (ev x) i
  | .indexAddr t x i => indexAddrR P pc H t (ev x) (ev i)
  | .index t x i => indexP' P pc t (ev x) (ev i)
  | .extract x i => match ev x with
    | .tup vs => match vs[i]? with
      | some v => .ok { v }
      | none => .no 102
    | _ => .no 103
  | .makeMap t none => makeMapR P fr t
  | .lookup t x k c => lookupR P pc H t (ev x) (ev k) c
  | .mapUpdate t m k x | .insert t m k x => mapPutR P pc H t (ev m) (ev k) (ev x)
  | .mapEntry t m k => mapEntryR P pc H t (ev m) (ev k)
  | .entryStore _ m k x => entryStoreR P pc H (ev m) (ev k) (ev x)
  | .range t x => rangeR P H fr t (ev x)
  | .next x false => nextR pc H (ev x)
  | .entry x => entryR pc H (ev x)
  | .call c => match c.callee with
    | .builtin b => builtinR P pc H fr b c.argTypes.toList (c.args.toList.map ev)
    | _ => .no 104
  | _ => .no 105

def setO (H : List O) (h : Nat) (o : O) : List O := if h < H.length then H.set h o else H ++ List.replicate (h - H.length) .free ++ [o]
def applyEff (H : List O) : List (Nat × O) → List O
  | [] => H
  | (h, o) :: l => applyEff (setO H h o) l

end Go.Sx

/- The symbolic executor, part F: expressions by their sort, templates and how they fit, contracts. -/
namespace Go.Sx
open Go

/-! ### an expression made simpler as a whole -/

inductive Srt where
  | i | b | r | l
  deriving DecidableEq

def E.norm (pc : List E) : Srt → E → E
  | .i, .un .neg a => mkNeg (a.norm pc .i)
  | .i, .un .len a => mkLen pc (a.norm pc .l)
  | .i, .un (.wrap k) a => mkWrap pc k (a.norm pc .i)
  | .i, .bi .add a b => mkAdd (a.norm pc .i) (b.norm pc .i)
  | .i, .bi .sub a b => mkSub (a.norm pc .i) (b.norm pc .i)
  | .i, .bi .mul a b => mkMul (a.norm pc .i) (b.norm pc .i)
  | .i, .bi .quo a b => mkQuo (a.norm pc .i) (b.norm pc .i)
  | .i, .bi .rem a b => mkRem pc (a.norm pc .i) (b.norm pc .i)
  | .i, .bi .min a b => mkMin pc (a.norm pc .i) (b.norm pc .i)
  | .i, .bi .max a b => mkMax pc (a.norm pc .i) (b.norm pc .i)
  | .i, .bi (.bit op k) a b => .bi (.bit op k) (a.norm pc .i) (b.norm pc .i)
  | .i, .te .ite c a b => mkIteI pc (c.norm pc .b) (a.norm pc .i) (b.norm pc .i)
  | .i, .te .get A i j => mkGet pc (A.norm pc .l) (i.norm pc .i) (j.norm pc .i)
  | .b, .un .not a => mkNot (a.norm pc .b)
  | .b, .bi .lt a b => mkC pc (.bi .lt (a.norm pc .i) (b.norm pc .i))
  | .b, .bi .le a b => mkC pc (.bi .le (a.norm pc .i) (b.norm pc .i))
  | .b, .bi .eq a b => mkC pc (.bi .eq (a.norm pc .i) (b.norm pc .i))
  | .b, .bi .and a b => mkC pc (.bi .and (a.norm pc .b) (b.norm pc .b))
  | .b, .bi .or a b => mkC pc (.bi .or (a.norm pc .b) (b.norm pc .b))
  | .b, .bi .beq a b => .bi .beq (a.norm pc .b) (b.norm pc .b)
  | .b, .te .ite c a b => .te .ite (c.norm pc .b) (a.norm pc .b) (b.norm pc .b)
  | .r, .bi .cons a b => .bi .cons (a.norm pc .i) (b.norm pc .r)
  | .l, .bi .row a b => .bi .row (a.norm pc .r) (b.norm pc .l)
  | .l, .bi .snoc a b => mkSnoc (a.norm pc .l) (b.norm pc .r)
  | .l, .bi .app a b => mkApp (a.norm pc .l) (b.norm pc .l)
  | .l, .bi .take a b => mkTake pc (a.norm pc .l) (b.norm pc .i)
  | .l, .bi .drop a b => mkDrop pc (a.norm pc .l) (b.norm pc .i)
  | .l, .bi .rep a b => .bi .rep (a.norm pc .i) (b.norm pc .r)
  | .i, .bi .find a b => mkFind pc (a.norm pc .l) (b.norm pc .r)
  | .l, .te .put a b c => mkPut pc (a.norm pc .l) (b.norm pc .r) (c.norm pc .r)
  | .l, .te .ent a b c => .te .ent (a.norm pc .l) (b.norm pc .r) (c.norm pc .r)
  | .l, .se A i j x => .se (A.norm pc .l) (i.norm pc .i) (j.norm pc .i) (x.norm pc .i)
  | _, e => e

def Srt.eqv : Srt → U → U → Prop
  | .i, u, v => u.i = v.i
  | .b, u, v => u.b = v.b
  | .r, u, v => u.r = v.r
  | .l, u, v => u.l = v.l

theorem Srt.eqv_refl (s : Srt) (u : U) : s.eqv u u := by cases s <;> rfl

theorem E.norm_ok {I : Itp} {ρ : List U} {pc : List E} (hpc : Holds I ρ pc) : ∀ (e : E) (s : Srt), s.eqv ((e.norm pc s).den I ρ) (e.den I ρ) := by
  intro e
  induction e with
  | un o a ih =>
    intro s
    have hi := ih .i
    have hb := ih .b
    have hl := ih .l
    simp only [Srt.eqv] at hi hb hl
    cases s <;> cases o <;> simp only [E.norm, Srt.eqv] <;>
      first
      | rfl
      | (rw [mkNeg_i, hi]; rfl)
      | (rw [mkLen_i hpc, hl]; rfl)
      | (rw [mkWrap_i hpc, hi]; rfl)
      | (rw [mkNot_ok, hb]; rfl)
  | bi o a b iha ihb =>
    intro s
    have hai := iha .i
    have hab := iha .b
    have har := iha .r
    have hal := iha .l
    have hbi := ihb .i
    have hbb := ihb .b
    have hbr := ihb .r
    have hbl := ihb .l
    simp only [Srt.eqv] at hai hab har hal hbi hbb hbr hbl
    cases s <;> cases o <;> simp only [E.norm, Srt.eqv] <;>
      first
      | rfl
      | (rw [mkAdd_i, hai, hbi]; rfl)
      | (rw [mkSub_i, hai, hbi]; rfl)
      | (rw [mkMul_i, hai, hbi]; rfl)
      | (rw [mkQuo_i, hai, hbi]; rfl)
      | (rw [mkRem_i hpc, hai, hbi]; rfl)
      | (rw [mkMin_i hpc, hai, hbi]; rfl)
      | (rw [mkMax_i hpc, hai, hbi]; rfl)
      | (rw [mkC_b hpc]; simp only [E.den, BiO.den, hai, hbi]; done)
      | (rw [mkC_b hpc]; simp only [E.den, BiO.den, hab, hbb]; done)
      | (rw [mkSnoc_l, hal, hbr]; rfl)
      | (rw [mkApp_l, hal, hbl]; rfl)
      | (rw [mkTake_l hpc, hal, hbi]; rfl)
      | (rw [mkDrop_l hpc, hal, hbi]; rfl)
      | (rw [mkFind_i hpc, hal, hbr]; rfl)
      | (simp only [E.den, BiO.den, hai, hbi]; done)
      | (simp only [E.den, BiO.den, hab, hbb]; done)
      | (simp only [E.den, BiO.den, hai, hbr]; done)
      | (simp only [E.den, BiO.den, har, hbl]; done)
  | te o a b c iha ihb ihc =>
    intro s
    have hab := iha .b
    have hal := iha .l
    have hbi := ihb .i
    have hbb := ihb .b
    have hci := ihc .i
    have hcb := ihc .b
    have hbr := ihb .r
    have hcr := ihc .r
    simp only [Srt.eqv] at hab hal hbi hbb hci hcb hbr hcr
    cases s <;> cases o <;> simp only [E.norm, Srt.eqv] <;>
      first
      | rfl
      | (rw [mkIteI_ok hpc, hab]; simp only [E.den, TeO.den]; split <;> assumption)
      | (rw [mkGet_i hpc, hal, hbi, hci]; rfl)
      | (rw [mkPut_l hpc, hal, hbr, hcr]; rfl)
      | (simp only [E.den, TeO.den, hal, hbr, hcr]; done)
      | (simp only [E.den, TeO.den, hab]; split <;> assumption)
  | se A i j x ihA ihi ihj ihx =>
    intro s
    have hA := ihA .l
    have hi := ihi .i
    have hj := ihj .i
    have hx := ihx .i
    simp only [Srt.eqv] at hA hi hj hx
    cases s <;> simp only [E.norm, Srt.eqv] <;> first | rfl | simp only [E.den, hA, hi, hj, hx]
  | _ => intro s; cases s <;> simp only [E.norm, Srt.eqv]

/-- Two expressions of one sort are seen to be equal. -/
def eqE (pc : List E) (s : Srt) (a b : E) : Bool :=
  a.same b || (a.norm pc s).same (b.norm pc s) || (match s with | .i => decide (decEq' pc (a.norm pc s) (b.norm pc s) = some true) | _ => false)

theorem eqE_ok {I : Itp} {ρ : List U} {pc : List E} (hpc : Holds I ρ pc) {s : Srt} {a b : E} (h : eqE pc s a b = true) : s.eqv (a.den I ρ) (b.den I ρ) := by
  simp only [eqE, Bool.or_eq_true] at h
  rcases h with (h | h) | h
  · rw [E.same_eq h]; exact Srt.eqv_refl _ _
  · have h1 := E.norm_ok hpc a s
    have h2 := E.norm_ok hpc b s
    rw [E.same_eq h] at h1
    cases s <;> simp only [Srt.eqv] at * <;> rw [← h1, h2]
  · cases s <;> simp at h
    have h1 := E.norm_ok hpc a .i
    have h2 := E.norm_ok hpc b .i
    have h3 := decEq'_ok hpc h
    simp only [Srt.eqv] at *
    simp at h3
    rw [← h1, ← h2, h3]

/-! ### templates -/

/-- Where a template's handle goes: to a handle; to a handle whose cells are looked at as rows; to nothing at all (a list that is empty and has no block). -/
inductive SH where
  | to (h : Nat)
  | conv (h : Nat)
  | ghost
  | off
  deriving DecidableEq

def goesTo (σ : List SH) (h h' : Nat) : Bool := decide (σ[h]? = some (.to h') ∨ σ[h]? = some (.conv h'))

mutual
/-- Does the template t fit the value s? -/
def subV (pc θ : List E) (σ : List SH) : V → V → Bool
  | .junk, _ => true
  | .int k e, .int k' e' => decide (k = k') && eqE pc .i (e.subst θ) e'
  | .bool e, .bool e' => eqE pc .b (e.subst θ) e'
  | .ptr h r c, .ptr h' r' c' => goesTo σ h h' && (decide (σ[h]? = some (.to h')) || r'.same (.lit 0)) && eqE pc .i (r.subst θ) r' && eqE pc .i (c.subst θ) c'
  | .nilp, .nilp => true
  | .slice h w o n cap, .slice h' w' o' n' cap' => goesTo σ h h' && decide (w = w') && eqE pc .i (o.subst θ) o' && eqE pc .i (n.subst θ) n' &&
      (match cap, cap' with | none, _ => true | some c, some c' => eqE pc .i (c.subst θ) c' | _, _ => false)
  | .slice h _ o n none, .nils => decide (σ[h]? = some .ghost) && eqE pc .i (o.subst θ) (.lit 0) && eqE pc .i (n.subst θ) (.lit 0)
  | .nils, .nils => true
  | .func f cs, .func f' cs' => decide (f = f') && subVL pc θ σ cs cs'
  | .nilf, .nilf => true
  | .yld h, .yld h' => goesTo σ h h'
  | .map h, .map h' => goesTo σ h h'
  | .nilm, .nilm => true
  | .agg cs, .agg cs' => subVL pc θ σ cs cs'
  | .tup cs, .tup cs' => subVL pc θ σ cs cs'
  | _, _ => false
def subVL (pc θ : List E) (σ : List SH) : List V → List V → Bool
  | [], [] => true
  | t :: ts, s :: ss => subV pc θ σ t s && subVL pc θ σ ts ss
  | _, _ => false
end

/-- What a call may only read may be the caller's own. -/
def roFits (lo ro ro' : Bool) : Bool := (ro == ro') || (lo && ro)

/-- The object of a template against the object that it stands for. -/
def subO (lo : Bool) (pc θ : List E) (σ : List SH) : O → O → Bool
  | .dead, o => match o with | .free => false | _ => true
  | .cells ro cs, .cells ro' cs' => roFits lo ro ro' && subVL pc θ σ cs cs'
  | .rows ro ks A, .rows ro' ks' A' => roFits lo ro ro' && decide (ks = ks') && eqE pc .l (A.subst θ) A'
  | .loop l, .loop l' => decide (l.fn = l'.fn) && decide (l.path = l'.path) && decide (l.st = l'.st) && decide (l.pend = l'.pend) && goesTo σ l.dh l'.dh && subVL pc θ σ l.tmps l'.tmps
  | .defd, .defd => true
  | .amap ks vs ka va A, .amap ks' vs' ka' va' A' => decide (ks = ks') && decide (vs = vs') && decide (ka = ka') && decide (va = va') && eqE pc .l (A.subst θ) A'
  | .iter m a b c, .iter m' a' b' c' => decide (a = a') && decide (b = b') && decide (c = c') && (match m, m' with | none, none => true | some h, some h' => goesTo σ h h' | _, _ => false)
  | _, _ => false

/-- Cells looked at as rows. -/
def subConv (lo : Bool) (pc θ : List E) : O → O → Bool
  | .rows ro ks A, .cells ro' cs' => roFits lo ro ro' && decide (0 < ks.length) && decide (0 < cs'.length) && (match rowsOfCells ks cs'.length cs' with | some l => eqE pc .l (A.subst θ) (rowsOf l) | none => false)
  | _, _ => false

/-- The whole abstract memory of a template. -/
def subHFrom (lo : Bool) (pc θ : List E) (σ : List SH) (H : List O) : List O → Nat → Bool
  | [], _ => true
  | o :: os, n =>
    (match o, σ[n]? with
     | .free, some .off => true
     | .free, none => true
     | .free, _ => false
     | o, some (.to h) => match H[h]? with
       | some o' => subO lo pc θ σ o o'
       | none => false
     | o, some (.conv h) => match H[h]? with
       | some o' => subConv lo pc θ o o'
       | none => false
     | .rows false ks A, some .ghost => decide (0 < ks.length) && eqE pc .l (A.subst θ) .nil
     | _, _ => false) && subHFrom lo pc θ σ H os (n + 1)

/-- No two handles go to one handle. -/
def distinctSH : List SH → Bool
  | [] => true
  | .to h :: l => !(l.contains (.to h)) && !(l.contains (.conv h)) && distinctSH l
  | .conv h :: l => !(l.contains (.to h)) && !(l.contains (.conv h)) && distinctSH l
  | _ :: l => distinctSH l

def subH (lo : Bool) (pc θ : List E) (σ : List SH) (T H : List O) : Bool := decide (σ.length ≤ T.length) && distinctSH σ && subHFrom lo pc θ σ H T 0

def subTI (σ : List SH) : TI → TI → Bool
  | .rfn h, .rfn h' => goesTo σ h h'
  | .erf h, .erf h' => goesTo σ h h'
  | .rfn _, _ => false
  | .erf _, _ => false
  | a, b => decide (a = b)

def subTIs (σ : List SH) : List TI → List TI → Bool
  | [], [] => true
  | a :: l, b :: m => subTI σ a b && subTIs σ l m
  | _, _ => false

def subNs (σ : List SH) : List Nat → List Nat → Bool
  | [], [] => true
  | a :: l, b :: m => goesTo σ a b && subNs σ l m
  | _, _ => false

def subFr (pc θ : List E) (σ : List SH) (t s : Fr) : Bool :=
  decide (t.fn = s.fn) && subVL pc θ σ t.tmps s.tmps && subTIs σ t.todo s.todo && subNs σ t.defs s.defs &&
    (match t.rnd, s.rnd with | none, none => true | some h, some h' => goesTo σ h h' | _, _ => false)

def subFrs (pc θ : List E) (σ : List SH) : List Fr → List Fr → Bool
  | [], [] => true
  | t :: ts, s :: ss => subFr pc θ σ t s && subFrs pc θ σ ts ss
  | _, _ => false

def subSt (pc θ : List E) (σ : List SH) (t s : St) : Bool := subFr pc θ σ t.top s.top && subFrs pc θ σ t.below s.below && subH false pc θ σ t.H s.H

/-! ### finding how a template fits (nothing is proved of this; what it finds is checked) -/

structure M where
  th : List (Option E)
  sg : List SH

def M.bind (m : M) (i : Nat) (e : E) : M := match m.th[i]? with
  | some none => { m with th := m.th.set i (some e) }
  | _ => m
def M.bindH (m : M) (h : Nat) (x : SH) : M := match m.sg[h]? with
  | some .off => { m with sg := m.sg.set h x }
  | _ => m

def mE : E → E → M → M
  | .var i, s, m => m.bind i s
  | .un _ a, .un _ a', m => mE a a' m
  | .bi _ a b, .bi _ a' b', m => mE b b' (mE a a' m)
  | .te _ a b c, .te _ a' b' c', m => mE c c' (mE b b' (mE a a' m))
  | .fn1 _ a, .fn1 _ a', m => mE a a' m
  | .fn2 _ a b, .fn2 _ a' b', m => mE b b' (mE a a' m)
  | _, _, m => m

mutual
def mV : V → V → M → M
  | .int _ e, .int _ e', m => mE e e' m
  | .bool e, .bool e', m => mE e e' m
  | .ptr h r c, .ptr h' r' c', m => mE c c' (mE r r' (m.bindH h (.to h')))
  | .slice h _ o n _, .slice h' _ o' n' _, m => match n with
    | .un .len _ => mE o o' (m.bindH h (.to h'))
    | _ => mE n n' (mE o o' (m.bindH h (.to h')))
  | .slice h _ o n _, .nils, m => mE n (.lit 0) (mE o (.lit 0) (m.bindH h .ghost))
  | .func _ cs, .func _ cs', m => mVL cs cs' m
  | .yld h, .yld h', m => m.bindH h (.to h')
  | .map h, .map h', m => m.bindH h (.to h')
  | .agg cs, .agg cs', m => mVL cs cs' m
  | .tup cs, .tup cs', m => mVL cs cs' m
  | _, _, m => m
def mVL : List V → List V → M → M
  | t :: ts, s :: ss, m => mVL ts ss (mV t s m)
  | _, _, m => m
end

def mO : O → O → M → M
  | .cells _ cs, .cells _ cs', m => mVL cs cs' m
  | .rows _ _ A, .rows _ _ A', m => mE A A' m
  | .rows _ ks A, .cells _ cs', m => match rowsOfCells ks cs'.length cs' with
    | some l => mE A (rowsOf l) m
    | none => m
  | .loop l, .loop l', m => mVL l.tmps l'.tmps (m.bindH l.dh (.to l'.dh))
  | .amap _ _ _ _ A, .amap _ _ _ _ A', m => mE A A' m
  | .iter (some h) _ _ _, .iter (some h') _ _ _, m => m.bindH h (.to h')
  | _, _, m => m

def mH (H : List O) : List O → Nat → M → M
  | [], _, m => m
  | o :: os, n, m => mH H os (n + 1) (match m.sg[n]? with
    | some (.to h) => match H[h]? with
      | some o' => mO o o' m
      | none => m
    | some .ghost => match o with
      | .rows _ _ A => mE A .nil m
      | _ => m
    | _ => m)

def mTIs : List TI → List TI → M → M
  | .rfn h :: l, .rfn h' :: l', m => mTIs l l' (m.bindH h (.to h'))
  | .erf h :: l, .erf h' :: l', m => mTIs l l' (m.bindH h (.to h'))
  | _ :: l, _ :: l', m => mTIs l l' m
  | _, _, m => m

def mNs : List Nat → List Nat → M → M
  | h :: l, h' :: l', m => mNs l l' (m.bindH h (.to h'))
  | _, _, m => m

def mFr (t s : Fr) (m : M) : M :=
  let m := mNs t.defs s.defs (mTIs t.todo s.todo (mVL t.tmps s.tmps m))
  match t.rnd, s.rnd with
  | some h, some h' => m.bindH h (.to h')
  | _, _ => m

def mFrs : List Fr → List Fr → M → M
  | t :: ts, s :: ss, m => mFrs ts ss (mFr t s m)
  | _, _, m => m

/-- Which handles are looked at as rows. -/
def convSg (T H : List O) : List SH → Nat → List SH
  | [], _ => []
  | .to h :: l, n => (match T[n]?, H[h]? with
    | some (.rows _ _ _), some (.cells _ _) => .conv h
    | _, _ => .to h) :: convSg T H l (n + 1)
  | x :: l, n => x :: convSg T H l (n + 1)

def M.start (nv nr nh : Nat) : M := { th := List.replicate nv none, sg := (List.range nh).map fun i => if i < nr then .to i else .off }
def M.th' (m : M) : List E := m.th.map fun x => x.getD .nil

/-! ### contracts -/

/-- What is known of a function: at arguments and memory of this form, if 'pre' holds, it returns 'res'; what of the memory it was handed has turned; what is new.
    The variables of args, H, pre and outs are the caller's; those of res, post and new stand for 'outs'. -/
structure Ctr where
  fn : Nat
  nv : Nat
  args : List V
  H : List O
  pre : List E
  outs : List E
  res : V
  post : List (Option O)
  new : List O

def instE (θ : List E) (e : E) : E := e.subst θ
mutual
def V.inst (θ : List E) (σ : List Nat) : V → V
  | .junk => .junk
  | .int k e => .int k (e.subst θ)
  | .bool e => .bool (e.subst θ)
  | .ptr h r c => .ptr (σ.getD h 0) (r.subst θ) (c.subst θ)
  | .nilp => .nilp
  | .slice h w o n cap => .slice (σ.getD h 0) w (o.subst θ) (n.subst θ) (cap.map (E.subst θ))
  | .nils => .nils
  | .func f cs => .func f (V.instL θ σ cs)
  | .nilf => .nilf
  | .yld h => .yld (σ.getD h 0)
  | .map h => .map (σ.getD h 0)
  | .nilm => .nilm
  | .agg cs => .agg (V.instL θ σ cs)
  | .tup cs => .tup (V.instL θ σ cs)
def V.instL (θ : List E) (σ : List Nat) : List V → List V
  | [] => []
  | v :: vs => v.inst θ σ :: V.instL θ σ vs
end

/-- Only lists of cells and of rows come out of a contract. -/
def O.inst (θ : List E) (σ : List Nat) : O → O
  | .cells ro cs => .cells ro (V.instL θ σ cs)
  | .rows ro ks A => .rows ro ks (A.subst θ)
  | o => o

def O.plain : O → Bool
  | .cells false _ => true
  | .rows false _ _ => true
  | .dead => true
  | _ => false

def effOf (θ : List E) (τ : List Nat) : List (Option O) → List Nat → List (Nat × O)
  | some o :: ps, h :: hs => (h, o.inst θ τ) :: effOf θ τ ps hs
  | none :: ps, _ :: hs => effOf θ τ ps hs
  | _, _ => []

def effNew (θ : List E) (τ : List Nat) (fr : Nat) : List O → Nat → List (Nat × O)
  | [], _ => []
  | o :: os, j => (fr + j, o.inst θ τ) :: effNew θ τ fr os (j + 1)

mutual
/-- No pointer to a list that is looked at as rows. -/
def V.ptrOk (cv : Nat → Bool) : V → Bool
  | .ptr h _ _ => !cv h
  | .func _ cs => V.ptrOkL cv cs
  | .agg cs => V.ptrOkL cv cs
  | .tup cs => V.ptrOkL cv cs
  | _ => true
def V.ptrOkL (cv : Nat → Bool) : List V → Bool
  | [] => true
  | v :: vs => v.ptrOk cv && V.ptrOkL cv vs
end
def O.ptrOk (cv : Nat → Bool) : O → Bool
  | .cells _ cs => V.ptrOkL cv cs
  | _ => true
def isConv (σ : List SH) (h : Nat) : Bool := match σ[h]? with | some (.conv _) => true | _ => false

/-- A handle's object at the end of the call. -/
def finO : O → Option O → O
  | .free, _ => .free
  | _, some o => o
  | _, none => .dead
/-- The memory at the end of the call. -/
def Ctr.fin (c : Ctr) : List O := List.zipWith finO c.H c.post ++ c.new

/-- What a contract must look like. -/
def wfO : List O → List (Option O) → Bool
  | [], [] => true
  | o :: os, p :: ps => (match o, p with
    | .free, _ => false
    | o, some q => !o.isRo && q.plain
    | o, none => o.isRo || (match o with | .dead => true | _ => false)) && wfO os ps
  | _, _ => false
def Ctr.wf (c : Ctr) : Bool := wfO c.H c.post && c.new.all O.plain

/-- What a call writes is no list that is looked at as rows. -/
def shOk : List SH → List (Option O) → Bool
  | [], [] => true
  | .to _ :: l, _ :: ps => shOk l ps
  | .conv _ :: l, none :: ps => shOk l ps
  | _, _ => false

/-- A contract at a call. -/
def ctrR (ng : Nat) (pc : List E) (H : List O) (fr : Nat) (c : Ctr) (args : List V) : Res :=
  let m := mVL c.args args (M.start c.nv ng c.H.length)
  let m := mH H c.H 0 m
  let m := mH H c.H 0 m
  let θ := m.th'
  let σ := convSg c.H H m.sg 0
  if subVL pc θ σ c.args args && subH true pc θ σ c.H H && (σ.take ng == (List.range ng).map .to) then
    let hs := σ.map fun x => match x with | .to h => h | .conv h => h | _ => 0
    if shOk σ c.post && c.res.ptrOk (isConv σ) && c.new.all (O.ptrOk (isConv σ)) && c.post.all (fun p => match p with | some o => o.ptrOk (isConv σ) | none => true) && decide (σ.length = c.H.length) && decide (c.new.length ≤ 4) then
      let τ := hs ++ (List.range c.new.length).map (fr + ·)
      let o' := c.outs.map (E.subst θ)
      okR pc (c.res.inst o' τ) (c.pre.map (E.subst θ)) (effOf o' τ c.post hs ++ effNew o' τ fr c.new 0) hs
    else .no 201
  else .no 200

def ctrsR (ng : Nat) (pc : List E) (H : List O) (fr : Nat) (f : Nat) (args : List V) : List Ctr → Res
  | [] => .no 202
  | c :: cs => if c.fn = f then
      match ctrR ng pc H fr c args with
      | .ok r => .ok r
      | _ => ctrsR ng pc H fr f args cs
    else ctrsR ng pc H fr f args cs

end Go.Sx

/- The symbolic executor, part G: the machine on abstract states; the tree of its ways; the summary over templates. -/
namespace Go.Sx
open Go

/-- The places of the loops of a code, in the text's order. -/
def loopPaths : Code → List Nat → List (List Nat)
  | .seq a b, p => loopPaths a (0 :: p) ++ loopPaths b (1 :: p)
  | .cond _ a b, p => loopPaths a (0 :: p) ++ loopPaths b (1 :: p)
  | .block _ a, p => loopPaths a (0 :: p)
  | .loop a, p => p :: loopPaths a (0 :: p)
  | .scope a, p => loopPaths a (0 :: p)
  | .rangeFunc _ _ a b, p => loopPaths a (0 :: p) ++ loopPaths b (1 :: p)
  | _, _ => []

structure Ctx where
  P : Program
  gl : List (Nat × Nat)
  ctrs : List Ctr
  /-- the loops at whose heads it stops: function and place of the loop -/
  heads : List (Nat × List Nat)
  /-- the first handles, which stand for the globals everywhere -/
  ng : Nat := 0
  /-- functions that are not entered (a contract must fit) -/
  shut : List Nat := []

inductive Out where
  | next (s : St)
  | br (c : E) (s : St)      -- the same state anew, once c is decided
  | two (c : E) (a b : St)   -- a if c, else b
  | need (cs : List E) (s : St)
  | ret (v : V) (H : List O)
  | bad (n : Nat)
  | alts (ss : List St)      -- one of these

def putT (tmps : List V) : Option Nat → V → List V
  | some d, v => tmps.set d v
  | none, _ => tmps

def exitToT (id : Nat) : List TI → Option (List TI)
  | .blk id' :: k => if id' = id then some k else exitToT id k
  | _ :: k => exitToT id k
  | [] => none

/-- Is the guarded operation wanted? none: not known yet, by this test. -/
def wantedT (ops : List Oper) (tmps : List V) (g : Option (Nat × Bool)) (pc : List E) : Option Bool × E :=
  match g with
  | none => (some true, .bl true)
  | some (j, want) =>
    match ops[j]? with
    | some o => match o.dst with
      | some d => match tmps[d]? with
        | some (.bool c) => match decC pc c with
          | some b => (some (b == want), .bl true)
          | none => (none, c)
        | some (.tup []) => (some false, .bl true)
        | none => (some false, .bl true)
        | some _ => (none, .nil)
      | none => (some false, .bl true)
    | none => (some false, .bl true)

def funVal (gl : List (Nat × Nat)) (tmps : List V) (op : Op) : Option (V × List V) :=
  match op with
  | .call c => match c.callee with
    | .value f => some (evalO gl tmps f, c.args.toList.map (evalO gl tmps))
    | _ => none
  | _ => none

def applyAR (s : St) (dst : Option Nat) (todo : List TI) (r : AR) : St :=
  { s with top := { s.top with tmps := putT s.top.tmps dst r.v, todo }, H := applyEff s.H r.eff }

def outAR (s : St) (dst : Option Nat) (todo : List TI) (r : AR) : Out :=
  match r.needs with
  | [] => .next (applyAR s dst todo r)
  | ns => .need ns (applyAR s dst todo r)

def outRes (s : St) (dst : Option Nat) (todo : List TI) : Res → Out
  | .ok r => outAR s dst todo r
  | .ask c => .br c s
  | .no n => .bad n
  | .any _ => .bad 340

/-- the ways that a step of an iterator may take -/
def anyOf (gl : List (Nat × Nat)) (pc : List E) (H : List O) (tmps : List V) (op : Op) : Option (List AR) :=
  match op with
  | .next x false => match nextR pc H (evalO gl tmps x) with
    | .any rs => some rs
    | _ => none
  | _ => none

def outOp (C : Ctx) (pc : List E) (s : St) (dst : Option Nat) (todo : List TI) (op : Op) : Out :=
  match anyOf C.gl pc s.H s.top.tmps op with
  | some rs => .alts (rs.map (applyAR s dst todo))
  | none => outRes s dst todo (opR C.P C.gl pc s.H s.H.length s.top.tmps op)

def enterFr (P : Program) (f : Nat) (args : List V) : Option Fr :=
  match P.funcs[f]? with
  | some fn => match fn.body with
    | some _ => if fn.name == "runtime.NumGoroutine" then none else
      some { fn := f, tmps := args ++ List.replicate (fn.ntmps - args.length) (.tup []), todo := [.at []], defs := [], rnd := none }
    | none => none
  | none => none

def roundFr (P : Program) (H : List O) (l : Nat) (args : List V) : Option Fr :=
  match H[l]? with
  | some (.loop a) => match codeAt (bodyOf P a.fn) a.path with
    | .rangeFunc _ prm _ _ =>
      if args.length = prm.toList.length then
        some { fn := a.fn, tmps := (prm.toList.zip args).foldl (fun t (p : Nat × V) => t.set p.1 p.2) a.tmps, todo := [.at (0 :: a.path), .beg, .at (1 :: a.path)], defs := [], rnd := some l }
      else none
    | _ => none
  | _ => none

/-- A call in a region that keeps its order: by a contract, or the callee is entered. -/
def callT (C : Ctx) (pc : List E) (s : St) (dst : Option Nat) (todo : List TI) (fv : V) (args : List V) : Out :=
  match fv with
  | .func f caps =>
    match ctrsR C.ng pc s.H s.H.length f (args ++ caps) C.ctrs with
    | .ok r => outAR s dst todo r
    | _ =>
      if C.shut.contains f then .bad (10000 + f) else
      match enterFr C.P f (args ++ caps) with
      | some fr => .next { top := fr, below := s.top :: s.below, H := s.H }
      | none => .bad (20000 + f)
  | .yld l => match roundFr C.P s.H l args with
    | some fr => .next { top := fr, below := s.top :: s.below, H := s.H }
    | none => .bad 300
  | _ => .bad 301

/-- The results of a function that returns. -/
def resV (P : Program) (pc : List E) (H : List O) (tmps : List V) : List ResultVar → Option (List V)
  | [] => some []
  | .tmp t :: rs => (resV P pc H tmps rs).map (tmps.getD t (.tup []) :: ·)
  | .cell a t :: rs =>
    match loadR P pc H t (tmps.getD a (.tup [])), resV P pc H tmps rs with
    | .ok r, some l => if r.needs.isEmpty then some (r.v :: l) else none
    | _, _ => none

def retVal : List V → V
  | [v] => v
  | l => .tup l

/-- The value v comes back to the frame below. -/
def finishT (P : Program) (fr : Fr) (v : V) : Option Fr :=
  match fr.todo with
  | .reg p i :: k => match codeAt (bodyOf P fr.fn) p with
    | .region _ ops _ => match ops.toList[i]? with
      | some o => some { fr with tmps := putT fr.tmps o.dst v, todo := .reg p (i + 1) :: k }
      | none => none
    | _ => none
  | .rfn h :: k => some { fr with todo := .erf h :: k }
  | _ => none

def retTo (P : Program) (s : St) (v : V) (H : List O) : Out :=
  match s.below with
  | [] => .ret v H
  | fr :: below => match finishT P fr v with
    | some fr => .next { top := fr, below, H }
    | none => .bad 302

def killDefs (H : List O) : List Nat → Option (List O)
  | [] => some H
  | h :: hs => match H[h]? with
    | some .defd => killDefs (H.set h .dead) hs
    | _ => none

/-- The top frame is at its end, by this jump. -/
def leaveT (C : Ctx) (pc : List E) (s : St) (j : Option Jmp) : Out :=
  match s.top.rnd with
  | some l =>
    match s.H[l]?, s.top.defs, s.below with
    | some (.loop a), [], _ :: _ =>
      retTo C.P s (.bool (.bl j.isNone)) (s.H.set l (.loop { a with st := if j.isNone then .ready else .done, pend := j }))
    | _, _, _ => .bad 303
  | none =>
    match j with
    | some (.exit _) => .bad 304
    | _ =>
      match C.P.funcs[s.top.fn]?, killDefs s.H s.top.defs with
      | some fn, some H => match resV C.P pc H s.top.tmps fn.results.toList with
        | some vs => retTo C.P s (retVal vs) H
        | none => .bad 305
      | _, _ => .bad 306

/-! ### a region whose order is drawn -/

mutual
/-- The handles of a value are among these. -/
def V.within (ok : Nat → Bool) : V → Bool
  | .ptr h _ _ => ok h
  | .slice h _ _ _ _ => ok h
  | .func _ cs => V.withinL ok cs
  | .yld h => ok h
  | .map h => ok h
  | .agg cs => V.withinL ok cs
  | .tup cs => V.withinL ok cs
  | _ => true
def V.withinL (ok : Nat → Bool) : List V → Bool
  | [] => true
  | v :: vs => v.within ok && V.withinL ok vs
end

def O.within (ok : Nat → Bool) : O → Bool
  | .cells _ cs => V.withinL ok cs
  | .loop l => V.withinL ok l.tmps && ok l.dh
  | .iter m _ _ _ => match m with | some h => ok h | none => true
  | _ => true

/-- What an operation of a drawn region has come to. -/
structure Rec where
  dst : Option Nat
  v : V
  eff : List (Nat × O)
  needs : List E
  reads : List Nat
  rd : List Nat

def tmpsOf (xs : List Operand) : List Nat := xs.filterMap fun x => match x with | .tmp t => some t | _ => none

def readsOf (ops : List Oper) (o : Oper) : List Nat :=
  tmpsOf o.op.operands.toList ++ (match o.guard with
    | some (g, _) => match ops[g]? with
      | some q => match q.dst with
        | some d => [d]
        | none => []
      | none => []
    | none => [])

/-- Who comes before whom in every order. -/
def beforeL : List Oper → List (List Nat) → List (List Nat)
  | [], acc => acc
  | o :: os, acc => beforeL os (acc ++ [((o.after.toList.filter fun e => Region.binds .any e).flatMap fun e => e.on :: acc.getD e.on []).eraseDups])

def bfOk (ops : List Oper) (bf : List (List Nat)) : Bool :=
  (List.range ops.length).all fun i => match ops[i]? with
    | some o => (o.after.toList.all fun e => !Region.binds .any e || decide (e.on < i)) &&
        ((bf.getD i []).all fun k => decide (k < i) && o.after.toList.any fun e => Region.binds .any e && (decide (e.on = k) || (bf.getD e.on []).contains k))
    | none => true

def isLive (H : List O) (h : Nat) : Bool := match look H h with | some _ => true | none => false
def regH (h0 i h : Nat) : Bool := decide (h0 + 4 * i ≤ h) && decide (h < h0 + 4 * i + 4)
def Rec.writes (r : Rec) (h : Nat) : Bool := r.eff.any fun e => decide (e.1 = h)

/-- The handles that are there before an operation in every order. -/
def okHs (H0 : List O) (recs : List Rec) (bi : List Nat) (h : Nat) : Bool :=
  isLive H0 h || bi.any fun j => match recs[j]? with | some r => r.writes h | none => false

def maskH (ok rd : Nat → Bool) : List O → Nat → List O
  | [], _ => []
  | o :: os, n => (if ok n then (if rd n then o else .dead) else .free) :: maskH ok rd os (n + 1)

def maskT (reads : List Nat) : List V → Nat → List V
  | [], _ => []
  | v :: vs, n => (if reads.contains n then v else .junk) :: maskT reads vs (n + 1)

inductive DR1 where
  | ok (r : Rec)
  | ask (c : E)
  | no (n : Nat)

def runOne (C : Ctx) (pc : List E) (H : List O) (fr : Nat) (tmps : List V) (op : Op) : Res :=
  match funVal C.gl tmps op with
  | some (.func f caps, args) => ctrsR C.ng pc H fr f (args ++ caps) C.ctrs
  | some _ => .no 311
  | none => opR C.P C.gl pc H fr tmps op

def effOk (H0 : List O) (ok rd : Nat → Bool) (h0 i : Nat) (bi : List Nat) (e : Nat × O) : Bool :=
  !e.2.isRo && (match e.2 with | .free => false | _ => true) && ((ok e.1 && rd e.1) || regH h0 i e.1) && (isLive H0 e.1 || (i :: bi).any fun k => regH h0 k e.1)

/-- An operation that leans on no memory at all. -/
def drawCalm (C : Ctx) (pc : List E) (fr : Nat) (mt : List V) (op : Op) : Option AR :=
  if V.withinL (fun _ => false) mt then
    match opR C.P [] pc [] fr mt op with
    | .ok r => if r.eff.isEmpty then some r else none
    | _ => none
  else none

/-- One operation, looked at on what it may lean on in every order. -/
def drawOne (C : Ctx) (pc : List E) (all : List Oper) (bf : List (List Nat)) (H0 : List O) (tmps : List V) (H : List O) (recs : List Rec) (i : Nat) (o : Oper) : DR1 :=
  let reads := readsOf all o
  let mt := maskT reads tmps 0
  match wantedT all mt o.guard pc with
  | (none, .nil) => .no 310
  | (none, c) => .ask c
  | (some false, _) => .ok { dst := o.dst, v := .tup [], eff := [], needs := [], reads, rd := [] }
  | (some true, _) =>
    let h0 := H0.length
    let fr := h0 + 4 * i
    match drawCalm C pc fr mt o.op with
    | some r => .ok { dst := o.dst, v := r.v, eff := [], needs := r.needs, reads, rd := [] }
    | none =>
    let bi := bf.getD i []
    let ok := okHs H0 recs bi
    match runOne C pc H fr mt o.op with
    | .ok r0 =>
      let rd := fun h => r0.rd.contains h
      let M := maskH ok rd H 0
      match runOne C pc M fr mt o.op with
      | .ok r =>
        if V.withinL ok mt && (C.gl.all fun g => ok g.2) && (M.all (O.within ok)) && ((List.range 4).all fun k => !ok (fr + k)) && r.eff.all (effOk H0 ok rd h0 i bi) then
          .ok { dst := o.dst, v := r.v, eff := r.eff, needs := r.needs, reads, rd := r0.rd }
        else .no 312
      | .ask c => .ask c
      | .no n => .no n
      | .any _ => .no 341
    | .ask c => .ask c
    | .no n => .no n
    | .any _ => .no 341

inductive DR where
  | ok (tmps : List V) (H : List O) (recs : List Rec)
  | ask (c : E)
  | no (n : Nat)

/-- the operations of a region in the text's order, each new object at a handle of its own -/
def drawOps (C : Ctx) (pc : List E) (all : List Oper) (bf : List (List Nat)) (H0 : List O) : List Oper → Nat → List V → List O → List Rec → DR
  | [], _, tmps, H, recs => .ok tmps H recs
  | o :: os, i, tmps, H, recs =>
    match drawOne C pc all bf H0 tmps H recs i o with
    | .ok r => drawOps C pc all bf H0 os (i + 1) (putT tmps r.dst r.v) (applyEff H r.eff) (recs ++ [r])
    | .ask c => .ask c
    | .no n => .no n

def apartR (a b : Rec) : Bool :=
  (match a.dst with | some d => !b.reads.contains d && decide (b.dst ≠ some d) | none => true) &&
  (match b.dst with | some d => !a.reads.contains d | none => true) &&
  (a.eff.all fun e => !b.rd.contains e.1 && !b.writes e.1) && (b.eff.all fun e => !a.rd.contains e.1)

def Rec.tl (r : Rec) : List (Nat × V) := match r.dst with
  | some d => [(d, r.v)]
  | none => []

def applyT (T : List V) : List (Nat × V) → List V
  | [] => T
  | (d, v) :: l => applyT (T.set d v) l

/-- .. but for what b writes and a reads -/
def apartW (a b : Rec) : Bool :=
  (match a.dst with | some d => !b.reads.contains d && decide (b.dst ≠ some d) | none => true) &&
  (match b.dst with | some d => !a.reads.contains d | none => true) &&
  (a.eff.all fun e => !b.rd.contains e.1 && !b.writes e.1)

mutual
/-- two flat values are the same (as far as it is seen) -/
def V.same : V → V → Bool
  | .int k e, .int k' e' => decide (k = k') && e.same e'
  | .bool e, .bool e' => e.same e'
  | .agg l, .agg m => V.sameL l m
  | .tup l, .tup m => V.sameL l m
  | _, _ => false
def V.sameL : List V → List V → Bool
  | [], [] => true
  | a :: l, b :: m => a.same b && V.sameL l m
  | _, _ => false
end

def sameEs : List E → List E → Bool
  | [], [] => true
  | a :: l, b :: m => a.same b && sameEs l m
  | _, _ => false

/-- What a (it writes nothing) comes to is the same whether b has written before or not. -/
def softAt (C : Ctx) (pc : List E) (all : List Oper) (bf : List (List Nat)) (H0 HB : List O) (T0 : List V) (recs : List Rec) (i : Nat) (a b : Rec) : Bool :=
  match all[i]?, b.eff with
  | some o, [(h, q)] =>
    let Hi := applyEff HB ((recs.take i).flatMap Rec.eff)
    let ok := okHs H0 (recs.take i) (bf.getD i [])
    let M := maskH ok (fun h => a.rd.contains h) (Hi.set h q) 0
    a.eff.isEmpty && ok h && (match runOne C pc M (H0.length + 4 * i) (maskT a.reads (applyT T0 ((recs.take i).flatMap Rec.tl)) 0) o.op with
      | .ok r => r.v.same a.v && r.eff.isEmpty && sameEs r.needs a.needs && M.all (O.within ok)
      | _ => false)
  | _, _ => false

/-- the pairs that no edge orders are apart, but for some of which one reads what the other writes, and it does not matter -/
def pairsS (C : Ctx) (pc : List E) (all : List Oper) (bf : List (List Nat)) (H0 HB : List O) (T0 : List V) (recs : List Rec) : Bool :=
  ((List.range recs.length).all fun j => (List.range j).all fun i =>
    (bf.getD j []).contains i || (match recs[i]?, recs[j]? with | some a, some b => apartR a b || (apartW a b && softAt C pc all bf H0 HB T0 recs i a b) | _, _ => false)) &&
  (List.range recs.length).all fun j => (List.range j).all fun k => (List.range k).all fun i =>
    (bf.getD j []).contains i || (bf.getD k []).contains i || (match recs[i]?, recs[k]?, recs[j]? with | some a, some b, some c => apartR a b || apartR a c | _, _, _ => false)

/-- the pairs that no edge orders are apart -/
def pairsOk (bf : List (List Nat)) (recs : List Rec) : Bool :=
  (List.range recs.length).all fun j => (List.range j).all fun i =>
    (bf.getD j []).contains i || (match recs[i]?, recs[j]? with | some a, some b => apartR a b | _, _ => false)

def dropFree (H : List O) : List O := (H.reverse.dropWhile fun o => match o with | .free => true | _ => false).reverse

def drawT (C : Ctx) (pc : List E) (s : St) (ops : List Oper) (k : List TI) : Out :=
  if !C.P.follows .mixedOrders then .bad 313 else
  let bf := beforeL ops []
  if !bfOk ops bf then .bad 314 else
  match drawOps C pc ops bf s.H ops 0 s.top.tmps (s.H ++ List.replicate (4 * ops.length) .free) [] with
  | .ok tmps H recs =>
    if pairsOk bf recs || pairsS C pc ops bf s.H (s.H ++ List.replicate (4 * ops.length) .free) s.top.tmps recs then
      let s' : St := { s with top := { s.top with tmps, todo := k }, H := dropFree H }
      match recs.flatMap Rec.needs with
      | [] => .next s'
      | ns => .need ns s'
    else .bad 315
  | .ask c => .br c s
  | .no n => .bad n

/-- from where on each operation comes behind all that stand before it -/
def lateD (bf : List (List Nat)) : Nat → Nat
  | 0 => 0
  | i + 1 => if (List.range i).all fun j => (bf.getD i []).contains j then lateD bf i else i + 1

/-- the first operations of a region in any order, the last ones (whose order is laid down) to be done -/
def drawP (C : Ctx) (pc : List E) (s : St) (ops : List Oper) (p : List Nat) (k : List TI) : Out :=
  if !C.P.follows .mixedOrders then .bad 313 else
  let bf := beforeL ops []
  if !bfOk ops bf then .bad 314 else
  let m := lateD bf ops.length
  match drawOps C pc ops bf s.H (ops.take m) 0 s.top.tmps (s.H ++ List.replicate (4 * ops.length) .free) [] with
  | .ok tmps H recs =>
    if pairsOk bf recs || pairsS C pc ops bf s.H (s.H ++ List.replicate (4 * ops.length) .free) s.top.tmps recs then
      let s' : St := { s with top := { s.top with tmps, todo := .reg p m :: k }, H := dropFree H }
      match recs.flatMap Rec.needs with
      | [] => .next s'
      | ns => .need ns s'
    else .bad 315
  | .ask c => .br c s
  | .no n => .bad n
def drawL (C : Ctx) (pc : List E) (s : St) (ops : List Oper) (p : List Nat) (k : List TI) : Out :=
  match drawT C pc s ops k with
  | .bad _ => drawP C pc s ops p k
  | r => r

/-- One step of the machine. -/
def stepT (C : Ctx) (pc : List E) (s : St) : Out :=
  let body := bodyOf C.P s.top.fn
  let to (k : List TI) : Out := .next { s with top := { s.top with todo := k } }
  match s.top.todo with
  | [] => leaveT C pc s none
  | .jmp (.exit id) :: k => match exitToT id k with
    | some k' => to k'
    | none => leaveT C pc s (some (.exit id))
  | .jmp .ret :: _ => leaveT C pc s (some .ret)
  | .blk _ :: k | .sc _ :: k => to k
  | .lp p :: k => to (.at (0 :: p) :: .lp p :: k)
  | .at p :: k =>
    match codeAt body p with
    | .skip | .label _ => to k
    | .seq _ _ => to (.at (0 :: p) :: .at (1 :: p) :: k)
    | .cond c _ _ => match evalO C.gl s.top.tmps c with
      | .bool e => match decC pc e with
        | some true => to (.at (0 :: p) :: k)
        | some false => to (.at (1 :: p) :: k)
        | none => .two e { s with top := { s.top with todo := .at (0 :: p) :: k } } { s with top := { s.top with todo := .at (1 :: p) :: k } }
      | _ => .bad 320
    | .block id _ => to (.at (0 :: p) :: .blk id :: k)
    | .loop _ => to (.at (0 :: p) :: .lp p :: k)
    | .scope _ => to (.at (0 :: p) :: .sc p :: k)
    | .exit id => match exitToT id k with
      | some k' => to k'
      | none => leaveT C pc s (some (.exit id))
    | .ret => leaveT C pc s (some .ret)
    | .region _ ops d => if d then drawL C pc s ops.toList p k else to (.reg p 0 :: k)
    | .rangeFunc f _ _ _ =>
      match evalO C.gl s.top.tmps f with
      | .func g caps =>
        match s.top.rnd with
        | none =>
          let d := s.H.length
          match enterFr C.P g (.yld (d + 1) :: caps) with
          | some fr =>
            .next { top := fr,
                    below := { s.top with todo := .rfn (d + 1) :: k, defs := d :: s.top.defs } :: s.below,
                    H := s.H ++ [.defd, .loop { fn := s.top.fn, tmps := s.top.tmps, path := p, st := .ready, pend := none, dh := d }] }
          | none => .bad 321
        | some o =>
          match s.H[o]? with
          | some (.loop a) =>
            let d := s.H.length
            match enterFr C.P g (.yld d :: caps) with
            | some fr =>
              .next { top := fr,
                      below := { s.top with todo := .rfn d :: k } :: s.below,
                      H := s.H ++ [.loop { fn := s.top.fn, tmps := s.top.tmps, path := p, st := .ready, pend := none, dh := a.dh }] }
            | none => .bad 322
          | _ => .bad 323
      | _ => .bad 324
    | _ => .bad 325
  | .reg p i :: k =>
    match codeAt body p with
    | .region _ ops _ =>
      match ops.toList[i]? with
      | none => to k
      | some o =>
        match wantedT ops.toList s.top.tmps o.guard pc with
        | (none, .nil) => .bad 326
        | (none, c) => .br c s
        | (some false, _) => .next { s with top := { s.top with tmps := putT s.top.tmps o.dst (.tup []), todo := .reg p (i + 1) :: k } }
        | (some true, _) =>
          match funVal C.gl s.top.tmps o.op with
          | some (fv, args) => callT C pc s o.dst (.reg p (i + 1) :: k) fv args
          | none => outOp C pc s o.dst (.reg p (i + 1) :: k) o.op
    | _ => .bad 327
  | .rfn _ :: _ => .bad 328
  | .beg :: k =>
    match s.top.rnd with
    | some l => match s.H[l]? with
      | some (.loop a) => if a.st = .ready then .next { s with top := { s.top with todo := k }, H := s.H.set l (.loop { a with st := .busy }) } else .bad 329
      | _ => .bad 330
    | none => .bad 331
  | .erf l :: k =>
    match s.H[l]? with
    | some (.loop a) =>
      if a.st = .busy then .bad 332 else
      .next { s with top := { s.top with todo := (match a.pend with | some j => [.jmp j] | none => []) ++ k }, H := s.H.set l (.loop { a with st := .exhausted }) }
    | _ => .bad 333

inductive T where
  | stop (pc : List E) (s : St)
  | ret (pc : List E) (v : V) (H : List O)
  | br (c : E) (a b : T)
  | need (cs : List E) (t : T)
  | bad (n : Nat) (s : St)
  | fuel (s : St)
  | alt (a b : T)

def altT : List T → T
  | [] => .fuel ⟨⟨0, [], [], [], none⟩, [], []⟩
  | [t] => t
  | t :: ts => .alt t (altT ts)

def isHead (C : Ctx) (s : St) : Bool :=
  match s.top.todo with
  | .at (0 :: p) :: .lp q :: _ => decide (p = q) && C.heads.contains (s.top.fn, p)
  | .at p :: _ => C.heads.contains (s.top.fn, 9 :: p)
  | _ => false

def exec (C : Ctx) : Nat → List E → St → T
  | 0, _, s => .fuel s
  | n + 1, pc, s =>
    let on (pc : List E) (s : St) : T := if isHead C s then .stop pc s else exec C n pc s
    match stepT C pc s with
    | .next s' => on pc s'
    | .br c s' => .br c (exec C n (assume c ++ pc) s') (exec C n (deny c ++ pc) s')
    | .two c a b => .br c (on (assume c ++ pc) a) (on (deny c ++ pc) b)
    | .need cs s' => .need cs (on (cs ++ pc) s')
    | .ret v H => .ret pc v H
    | .bad k => .bad k s
    | .alts ss => altT (ss.map (on pc))

/-- A template for a loop's head: its state over variables, what is known of them. -/
structure Tm where
  st : St
  nv : Nat
  pre : List E

/-- The template of a return. -/
structure Rt where
  v : V
  H : List O
  nv : Nat

inductive ST where
  | goto (j : Nat) (θ : List E)
  | ret (θ : List E)
  | br (c : E) (a b : ST)
  | need (cs : List E) (t : ST)
  | bad (n : Nat)
  | alt (a b : ST)
  deriving DecidableEq

/-- what the iterators have seen: looked at first -/
def seenOf : List O → List (List Nat)
  | [] => []
  | .iter _ _ s _ :: l => s :: seenOf l
  | _ :: l => seenOf l
def itersIn (T H : List O) : Bool := match seenOf T with
  | [] => true
  | l => l.all fun s => (seenOf H).contains s

def fitTm (nr : Nat) (pc : List E) (s : St) : List Tm → Nat → ST
  | [], _ => .bad 400
  | t :: ts, j =>
    if t.st.top.fn = s.top.fn ∧ t.st.top.todo = s.top.todo ∧ t.st.below.length = s.below.length ∧ itersIn t.st.H s.H = true then
      let m := mFrs t.st.below s.below (mFr t.st.top s.top (M.start t.nv nr t.st.H.length))
      let m := mH s.H t.st.H 0 m
      let m := mH s.H t.st.H 0 m
      let σ := convSg t.st.H s.H m.sg 0
      if subSt pc m.th' σ t.st s && (σ.take nr == (List.range nr).map .to) then .goto j m.th' else fitTm nr pc s ts (j + 1)
    else fitTm nr pc s ts (j + 1)

def fitRt (nr : Nat) (pc : List E) (v : V) (H : List O) (r : Rt) : ST :=
  let m := mV r.v v (M.start r.nv nr r.H.length)
  let m := mH H r.H 0 m
  let m := mH H r.H 0 m
  let σ := convSg r.H H m.sg 0
  if subV pc m.th' σ r.v v && subH false pc m.th' σ r.H H && (σ.take nr == (List.range nr).map .to) then .ret m.th' else .bad 402

def summ (nr : Nat) (tms : List Tm) (r : Rt) : T → ST
  | .stop pc s => fitTm nr pc s tms 0
  | .ret pc v H => fitRt nr pc v H r
  | .br c a b => .br c (summ nr tms r a) (summ nr tms r b)
  | .need cs t => .need cs (summ nr tms r t)
  | .bad n _ => .bad n
  | .fuel _ => .bad 403
  | .alt a b => .alt (summ nr tms r a) (summ nr tms r b)

/-- The summary from the template j on. -/
def summary (C : Ctx) (fuel nr : Nat) (tms : List Tm) (r : Rt) (t : Tm) : ST := summ nr tms r (exec C fuel t.pre t.st)

end Go.Sx
