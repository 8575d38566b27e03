/- The symbolic executor, proved sound: used by the laws' proofs of this seat. No conditions. -/
import Derived.Test.YtnpadkajapialaaDoorSxI
import Derived.Laws.OwnMore
import Derived.Laws.Slices
import Derived.Laws.StructEq
import Derived.Laws.NewFold
import Derived.ChangeKeysEq
import Derived.Great.BuildSlice
/- The symbolic executor, part H: memory under the operations' hands. -/
namespace Go.Sx
open Go

theorem mkNeeds_ok {I : Itp} {ρ : List U} {pc : List E} (hpc : Holds I ρ pc) : ∀ (cs ns : List E), mkNeeds pc cs = some ns → Holds I ρ ns → Holds I ρ cs
  | [], ns, _, _ => fun c hc => by simp at hc
  | c :: cs, ns, h, hn => by
    simp only [mkNeeds] at h
    split at h
    · rename_i h1
      exact Holds.cons (decC_ok hpc _ _ h1) (mkNeeds_ok hpc cs ns h hn)
    · simp at h
    · rename_i h1 h2
      simp only [Option.some.injEq] at h
      subst h
      exact Holds.cons (hn _ (List.mem_cons_self ..)) (mkNeeds_ok hpc cs _ h2 (fun d hd => hn d (List.mem_cons_of_mem _ hd)))
    · simp at h

theorem okR_ok {I : Itp} {ρ : List U} {pc : List E} (hpc : Holds I ρ pc) {v : V} {cs : List E} {eff : List (Nat × O)} {rd : List Nat} {r : AR}
    (h : okR pc v cs eff rd = .ok r) : r.v = v ∧ r.eff = eff ∧ r.rd = rd ∧ (Holds I ρ r.needs → Holds I ρ cs) := by
  unfold okR at h
  split at h
  · rename_i ns hns
    simp only [Res.ok.injEq] at h
    subst h
    exact ⟨rfl, rfl, rfl, mkNeeds_ok hpc _ _ hns⟩
  · simp at h

theorem look_some {H : List O} {h : Nat} {o : O} (hk : look H h = some o) : H[h]? = some o ∧ o ≠ .free := by
  unfold look at hk
  split at hk
  · simp at hk
  · rename_i x hx
    refine ⟨hk, fun e => ?_⟩
    subst e
    exact hx hk

theorem look_of {H : List O} {h : Nat} {o : O} (hk : H[h]? = some o) (ho : o ≠ .free) : look H h = some o := by
  unfold look
  split
  · rename_i hf; rw [hk] at hf; simp only [Option.some.injEq] at hf; exact (ho hf).elim
  · exact hk

theorem look_none_of {H : List O} {h : Nat} (hk : H[h]? = none) : look H h = none := by
  unfold look
  rw [hk]

theorem look_setO {H : List O} {h : Nat} {o : O} (ho : o ≠ .free) (k : Nat) : look (setO H h o) k = if k = h then some o else look H k := by
  unfold setO
  by_cases hlt : h < H.length
  · rw [if_pos hlt]
    by_cases hk : k = h
    · subst hk
      rw [if_pos rfl]
      exact look_of (by simp [hlt]) ho
    · rw [if_neg hk]
      unfold look
      rw [List.getElem?_set_ne (by omega)]
  · rw [if_neg hlt]
    by_cases hk : k = h
    · subst hk
      rw [if_pos rfl]
      refine look_of ?_ ho
      rw [List.getElem?_append_right (by rw [List.length_append, List.length_replicate]; omega), List.length_append, List.length_replicate]
      rw [show k - (H.length + (k - H.length)) = 0 from by omega]; rfl
    · rw [if_neg hk]
      by_cases h1 : k < H.length
      · unfold look
        rw [List.getElem?_append_left (by rw [List.length_append, List.length_replicate]; omega), List.getElem?_append_left (by omega)]
      · have hn : look H k = none := look_none_of (List.getElem?_eq_none (by omega))
        rw [hn]
        by_cases h2 : k < h
        · unfold look
          rw [List.getElem?_append_left (by rw [List.length_append, List.length_replicate]; omega), List.getElem?_append_right (by omega)]
          rw [List.getElem?_replicate_of_lt (by omega)]
        · exact look_none_of (List.getElem?_eq_none (by simp only [List.length_append, List.length_replicate, List.length_singleton]; omega))

/-- An environment with one handle more. -/
def Env.ext (η : Env) (h : Nat) (i : Info) : Env := fun k => if k = h then some i else η k
theorem Env.le_ext {η : Env} {h : Nat} (i : Info) (hn : η h = none) : η.le (η.ext h i) := by
  intro k j hj
  unfold Env.ext
  split
  · subst_vars; rw [hn] at hj; simp at hj
  · exact hj
theorem Env.ext_self (η : Env) (h : Nat) (i : Info) : (η.ext h i) h = some i := by simp [Env.ext]
theorem Env.ext_ne {η : Env} {h k : Nat} {i : Info} (hk : k ≠ h) : (η.ext h i) k = η k := by simp [Env.ext, hk]

theorem O.den_congr {P : Program} {I : Itp} {ρ : List U} {η : Env} {i : Info} {o : O} {x x' : Option Obj} (h : o.den P I ρ η i x) (hx : o.hasBlk i → x' = x) : o.den P I ρ η i x' := by
  cases o with
  | free => exact h
  | dead => trivial
  | rows ro ks A =>
    obtain ⟨h1, h2, h3, h0, h4⟩ := h
    refine ⟨h1, h2, h3, h0, ?_⟩
    rcases h4 with h4 | h4
    · exact .inl h4
    · rw [hx h4.1]; exact .inr h4
  | _ => rw [hx trivial]; exact h

/-- An object with a block: the block is there. -/
theorem O.block_there {P : Program} {I : Itp} {ρ : List U} {η : Env} {i : Info} {o : O} {w : World} (h : o.den P I ρ η i w.heap[i.blk]?) (hb : o.hasBlk i) : i.blk < w.heap.size := by
  have key : ∀ ob, w.heap[i.blk]? = some ob → i.blk < w.heap.size := fun ob hob => by
    rcases Nat.lt_or_ge i.blk w.heap.size with h1 | h1
    · exact h1
    · rw [Array.getElem?_eq_none h1] at hob; simp at hob
  cases o with
  | free => exact hb.elim
  | dead => exact hb.elim
  | cells ro cs => obtain ⟨_, c, ty, fz, hx, _⟩ := h; exact key _ hx
  | rows ro ks A =>
    obtain ⟨_, _, _, _, h4⟩ := h
    rcases h4 with h4 | ⟨_, c, ty, fz, hx, _⟩
    · have h5 : 0 < i.sz := hb
      omega
    · exact key _ hx
  | loop l => obtain ⟨tm, prm, f, asg, bd, d, hx, _⟩ := h; exact key _ hx
  | defd => exact key _ h
  | amap ks vs ka va A => exact key _ h.2
  | iter m a b c =>
    cases m with
    | none => exact key _ h
    | some m => obtain ⟨j, _, hx, _⟩ := h; exact key _ hx

section
variable {P : Program} {I : Itp} {ρ : List U} {η : Env} {H : List O} {S : Nat → Prop} {w0 w w' : World}

/-- A new block, behind a handle that stood for nothing. -/
theorem Mem.fresh (m : Mem P I ρ η H S w0 w) {h : Nat} (hn : look H h = none) {ob : Obj} {o : O} {i : Info}
    (hheap : w'.heap = w.heap.push ob) (hos : w'.os = w.os) (htape : w'.tape = w.tape) (hout : w'.output = w.output)
    (hi : i.blk = w.heap.size) (hro : o.isRo = false) (hfree : o ≠ .free) (hden : o.den P I ρ (η.ext h i) i (some ob)) :
    Mem P I ρ (η.ext h i) (setO H h o) S w0 w' := by
  have hη := m.free h hn
  have hle : η.le (η.ext h i) := Env.le_ext i hη
  have hkeep : ∀ b, b < w.heap.size → w'.heap[b]? = w.heap[b]? := fun b hb => by rw [hheap, Array.getElem?_push, if_neg (by omega)]
  refine ⟨?_, ?_, ?_, ?_, ?_, ?_⟩
  · intro k hk
    rw [look_setO hfree] at hk
    split at hk
    · simp at hk
    · rename_i hne; rw [Env.ext_ne hne]; exact m.free k hk
  · intro k o' hk
    rw [look_setO hfree] at hk
    split at hk
    · subst_vars
      simp only [Option.some.injEq] at hk; subst hk
      refine ⟨i, Env.ext_self .., ?_⟩
      rw [hi, hheap, Array.getElem?_push, if_pos rfl]
      exact hden
    · rename_i hne
      obtain ⟨j, hj, hd⟩ := m.obj k o' hk
      refine ⟨j, hle _ _ hj, ?_⟩
      exact O.den_congr (O.den_mono hle hd) (fun hb => hkeep _ (O.block_there hd hb))
  · intro k o' j hk hj hr hb
    rw [look_setO hfree] at hk
    split at hk
    · subst_vars
      simp only [Option.some.injEq] at hk; subst hk
      rw [hro] at hr; simp at hr
    · rename_i hne; rw [Env.ext_ne hne] at hj; exact m.old k o' j hk hj hr hb
  · intro k o' j hk hj hr hb
    rw [look_setO hfree] at hk
    split at hk
    · subst_vars
      rw [Env.ext_self] at hj
      simp only [Option.some.injEq] at hj; subst hj
      right; rw [hi]; exact m.keeps.size
    · rename_i hne; rw [Env.ext_ne hne] at hj; exact m.own k o' j hk hj hr hb
  · intro k k' o1 o2 i1 i2 hkk h1 h2 e1 e2 r1 r2 b1 b2
    rw [look_setO hfree] at h1 h2
    split at h1
    · subst_vars
      rw [Env.ext_self] at e1
      simp only [Option.some.injEq] at e1; subst e1
      rw [if_neg (Ne.symm hkk)] at h2
      rw [Env.ext_ne (Ne.symm hkk)] at e2
      obtain ⟨j, hj, hd⟩ := m.obj k' o2 h2
      rw [e2] at hj; simp only [Option.some.injEq] at hj; subst hj
      have := O.block_there hd b2
      omega
    · rename_i hne
      rw [Env.ext_ne hne] at e1
      obtain ⟨j, hj, hd⟩ := m.obj k o1 h1
      rw [e1] at hj; simp only [Option.some.injEq] at hj; subst hj
      have hlt := O.block_there hd b1
      split at h2
      · subst_vars
        rw [Env.ext_self] at e2
        simp only [Option.some.injEq] at e2; subst e2
        omega
      · rename_i hne'
        rw [Env.ext_ne hne'] at e2
        exact m.apart k k' o1 o2 i1 i2 hkk h1 h2 e1 e2 r1 r2 b1 b2
  · exact m.keeps.step (T := fun _ => False) ⟨hos, htape, hout, by rw [hheap]; simp, fun b hb _ => hkeep b hb⟩ (fun _ h => h.elim)

/-- A block of the call's own is written: its object turns. -/
theorem Mem.write (m : Mem P I ρ η H S w0 w) {h : Nat} {o o' : O} {i : Info} (hl : look H h = some o) (hη : η h = some i) (hro : o.isRo = false) (hb : o.hasBlk i)
    (hos : w'.os = w.os) (htape : w'.tape = w.tape) (hout : w'.output = w.output) (hsz : w.heap.size ≤ w'.heap.size) (hother : ∀ b, b < w.heap.size → b ≠ i.blk → w'.heap[b]? = w.heap[b]?)
    (hro' : o'.isRo = false) (hfree : o' ≠ .free) (hden : o'.den P I ρ η i w'.heap[i.blk]?) :
    Mem P I ρ η (setO H h o') S w0 w' := by
  have hown := m.own h o i hl hη hro hb
  refine ⟨?_, ?_, ?_, ?_, ?_, ?_⟩
  · intro k hk
    rw [look_setO hfree] at hk
    split at hk
    · simp at hk
    · exact m.free k hk
  · intro k p hk
    rw [look_setO hfree] at hk
    split at hk
    · subst_vars
      simp only [Option.some.injEq] at hk; subst hk
      exact ⟨i, hη, hden⟩
    · rename_i hne
      obtain ⟨j, hj, hd⟩ := m.obj k p hk
      refine ⟨j, hj, O.den_congr hd (fun hpb => hother _ (O.block_there hd hpb) ?_)⟩
      cases hr : p.isRo with
      | false => exact m.apart k h p o j i hne hk hl hj hη hr hro hpb hb
      | true =>
        have := m.old k p j hk hj hr hpb
        intro e
        rcases hown with h1 | h1
        · exact this.2 (e ▸ h1)
        · omega
  · intro k p j hk hj hr hpb
    rw [look_setO hfree] at hk
    split at hk
    · simp only [Option.some.injEq] at hk; subst hk
      rw [hro'] at hr; simp at hr
    · exact m.old k p j hk hj hr hpb
  · intro k p j hk hj hr hpb
    rw [look_setO hfree] at hk
    split at hk
    · subst_vars
      rw [hη] at hj; simp only [Option.some.injEq] at hj; subst hj
      exact hown
    · exact m.own k p j hk hj hr hpb
  · intro k k' o1 o2 i1 i2 hkk h1 h2 e1 e2 r1 r2 b1 b2
    rw [look_setO hfree] at h1 h2
    split at h1
    · subst_vars
      rw [hη] at e1; simp only [Option.some.injEq] at e1; subst e1
      rw [if_neg (Ne.symm hkk)] at h2
      exact m.apart _ k' o o2 _ i2 hkk hl h2 hη e2 hro r2 hb b2
    · split at h2
      · subst_vars
        rw [hη] at e2; simp only [Option.some.injEq] at e2; subst e2
        exact m.apart k _ o1 o i1 _ hkk h1 hl e1 hη r1 hro b1 hb
      · exact m.apart k k' o1 o2 i1 i2 hkk h1 h2 e1 e2 r1 r2 b1 b2
  · exact m.keeps.step (T := fun b => b = i.blk) ⟨hos, htape, hout, hsz, fun b hb' hne => hother b hb' hne⟩ (fun b h => h ▸ hown)

/-- A handle is given up. -/
theorem Mem.kill (m : Mem P I ρ η H S w0 w) {h : Nat} {o : O} (hl : look H h = some o) : Mem P I ρ η (setO H h .dead) S w0 w := by
  have hfree : O.dead ≠ .free := by intro e; cases e
  refine ⟨?_, ?_, ?_, ?_, ?_, m.keeps⟩
  · intro k hk
    rw [look_setO hfree] at hk
    split at hk
    · simp at hk
    · exact m.free k hk
  · intro k p hk
    rw [look_setO hfree] at hk
    split at hk
    · subst_vars
      simp only [Option.some.injEq] at hk; subst hk
      obtain ⟨i, hi, _⟩ := m.obj _ o hl
      exact ⟨i, hi, trivial⟩
    · exact m.obj k p hk
  · intro k p j hk hj hr hpb
    rw [look_setO hfree] at hk
    split at hk
    · simp only [Option.some.injEq] at hk; subst hk; exact hpb.elim
    · exact m.old k p j hk hj hr hpb
  · intro k p j hk hj hr hpb
    rw [look_setO hfree] at hk
    split at hk
    · simp only [Option.some.injEq] at hk; subst hk; exact hpb.elim
    · exact m.own k p j hk hj hr hpb
  · intro k k' o1 o2 i1 i2 hkk h1 h2 e1 e2 r1 r2 b1 b2
    rw [look_setO hfree] at h1 h2
    split at h1
    · simp only [Option.some.injEq] at h1; subst h1; exact b1.elim
    · split at h2
      · simp only [Option.some.injEq] at h2; subst h2; exact b2.elim
      · exact m.apart k k' o1 o2 i1 i2 hkk h1 h2 e1 e2 r1 r2 b1 b2

/-- A handle is given up, and what lay behind it lies behind a new one, turned. -/
theorem Mem.move (m : Mem P I ρ η H S w0 w) {h g : Nat} {o o' : O} {i j : Info} (hl : look H h = some o) (hη : η h = some i) (hro : o.isRo = false) (hb : o.hasBlk i)
    (hg : look H g = none) (hj : j.blk = i.blk)
    (hos : w'.os = w.os) (htape : w'.tape = w.tape) (hout : w'.output = w.output) (hsz : w.heap.size ≤ w'.heap.size) (hother : ∀ b, b < w.heap.size → b ≠ i.blk → w'.heap[b]? = w.heap[b]?)
    (hro' : o'.isRo = false) (hfree : o' ≠ .free) (hden : o'.den P I ρ (η.ext g j) j w'.heap[j.blk]?) :
    Mem P I ρ (η.ext g j) (setO (setO H h .dead) g o') S w0 w' := by
  have hown := m.own h o i hl hη hro hb
  have hdf : O.dead ≠ .free := by intro e; cases e
  have hηg := m.free g hg
  have hle : η.le (η.ext g j) := Env.le_ext j hηg
  have hgh : g ≠ h := by rintro rfl; rw [hl] at hg; simp at hg
  have hlook : ∀ k, look (setO (setO H h .dead) g o') k = if k = g then some o' else if k = h then some .dead else look H k := by
    intro k; rw [look_setO hfree, look_setO hdf]
  refine ⟨?_, ?_, ?_, ?_, ?_, ?_⟩
  · intro k hk
    rw [hlook] at hk
    split at hk
    · simp at hk
    · rename_i hne
      rw [Env.ext_ne hne]
      split at hk
      · simp at hk
      · exact m.free k hk
  · intro k p hk
    rw [hlook] at hk
    split at hk
    · subst_vars
      simp only [Option.some.injEq] at hk; subst hk
      exact ⟨j, Env.ext_self .., hden⟩
    · rename_i hne
      split at hk
      · subst_vars
        simp only [Option.some.injEq] at hk; subst hk
        exact ⟨i, hle _ _ hη, trivial⟩
      · rename_i hne'
        obtain ⟨q, hq, hd⟩ := m.obj k p hk
        refine ⟨q, hle _ _ hq, O.den_congr (O.den_mono hle hd) (fun hpb => hother _ (O.block_there hd hpb) ?_)⟩
        cases hr : p.isRo with
        | false => exact m.apart k h p o q i hne' hk hl hq hη hr hro hpb hb
        | true =>
          have := m.old k p q hk hq hr hpb
          intro e
          rcases hown with h1 | h1
          · exact this.2 (e ▸ h1)
          · omega
  · intro k p q hk hq hr hpb
    rw [hlook] at hk
    split at hk
    · simp only [Option.some.injEq] at hk; subst hk
      rw [hro'] at hr; simp at hr
    · rename_i hne
      rw [Env.ext_ne hne] at hq
      split at hk
      · simp only [Option.some.injEq] at hk; subst hk; exact hpb.elim
      · exact m.old k p q hk hq hr hpb
  · intro k p q hk hq hr hpb
    rw [hlook] at hk
    split at hk
    · subst_vars
      rw [Env.ext_self] at hq; simp only [Option.some.injEq] at hq; subst hq
      rw [hj]; exact hown
    · rename_i hne
      rw [Env.ext_ne hne] at hq
      split at hk
      · simp only [Option.some.injEq] at hk; subst hk; exact hpb.elim
      · exact m.own k p q hk hq hr hpb
  · intro k k' o1 o2 i1 i2 hkk h1 h2 e1 e2 r1 r2 b1 b2
    rw [hlook] at h1 h2
    split at h1
    · subst_vars
      rw [Env.ext_self] at e1; simp only [Option.some.injEq] at e1; subst e1
      rw [if_neg (Ne.symm hkk)] at h2
      rw [Env.ext_ne (Ne.symm hkk)] at e2
      split at h2
      · simp only [Option.some.injEq] at h2; subst h2; exact b2.elim
      · rename_i hne'
        rw [hj]
        exact m.apart h k' o o2 i i2 (Ne.symm hne') hl h2 hη e2 hro r2 hb b2
    · rename_i hne
      rw [Env.ext_ne hne] at e1
      split at h1
      · simp only [Option.some.injEq] at h1; subst h1; exact b1.elim
      · rename_i hne1
        split at h2
        · subst_vars
          rw [Env.ext_self] at e2; simp only [Option.some.injEq] at e2; subst e2
          rw [hj]
          exact m.apart k h o1 o i1 i hne1 h1 hl e1 hη r1 hro b1 hb
        · rename_i hne'
          rw [Env.ext_ne hne'] at e2
          split at h2
          · simp only [Option.some.injEq] at h2; subst h2; exact b2.elim
          · exact m.apart k k' o1 o2 i1 i2 hkk h1 h2 e1 e2 r1 r2 b1 b2
  · exact m.keeps.step (T := fun b => b = i.blk) ⟨hos, htape, hout, hsz, fun b hb' hne => hother b hb' hne⟩ (fun b h => h ▸ hown)

/-- A new object that has no block. -/
theorem Mem.empty (m : Mem P I ρ η H S w0 w) {h : Nat} (hn : look H h = none) {ks : List CK} {A : E} {i : Info} (hi : i.sz = 0)
    (hden : (O.rows false ks A).den P I ρ η i none) : Mem P I ρ (η.ext h i) (setO H h (.rows false ks A)) S w0 w := by
  have hη := m.free h hn
  have hle : η.le (η.ext h i) := Env.le_ext i hη
  have hfree : O.rows false ks A ≠ .free := by intro e; cases e
  have hnb : ¬ (O.rows false ks A).hasBlk i := fun h' => by
    have h5 : 0 < i.sz := h'
    omega
  refine ⟨?_, ?_, ?_, ?_, ?_, m.keeps⟩
  · intro k hk
    rw [look_setO hfree] at hk
    split at hk
    · simp at hk
    · rename_i hne; rw [Env.ext_ne hne]; exact m.free k hk
  · intro k o' hk
    rw [look_setO hfree] at hk
    split at hk
    · subst_vars
      simp only [Option.some.injEq] at hk; subst hk
      exact ⟨i, Env.ext_self .., O.den_congr (O.den_mono hle hden) (fun hb => (hnb hb).elim)⟩
    · rename_i hne
      obtain ⟨j, hj, hd⟩ := m.obj k o' hk
      exact ⟨j, hle _ _ hj, O.den_mono hle hd⟩
  · intro k o' j hk hj hr hb
    rw [look_setO hfree] at hk
    split at hk
    · subst_vars
      rw [Env.ext_self] at hj
      simp only [Option.some.injEq] at hk hj; subst hk; subst hj
      exact (hnb hb).elim
    · rename_i hne; rw [Env.ext_ne hne] at hj; exact m.old k o' j hk hj hr hb
  · intro k o' j hk hj hr hb
    rw [look_setO hfree] at hk
    split at hk
    · subst_vars
      rw [Env.ext_self] at hj
      simp only [Option.some.injEq] at hk hj; subst hk; subst hj
      exact (hnb hb).elim
    · rename_i hne; rw [Env.ext_ne hne] at hj; exact m.own k o' j hk hj hr hb
  · intro k k' o1 o2 i1 i2 hkk h1 h2 e1 e2 r1 r2 b1 b2
    rw [look_setO hfree] at h1 h2
    split at h1
    · subst_vars
      rw [Env.ext_self] at e1
      simp only [Option.some.injEq] at h1 e1; subst h1; subst e1
      exact (hnb b1).elim
    · rename_i hne
      rw [Env.ext_ne hne] at e1
      split at h2
      · subst_vars
        rw [Env.ext_self] at e2
        simp only [Option.some.injEq] at h2 e2; subst h2; subst e2
        exact (hnb b2).elim
      · rename_i hne'
        rw [Env.ext_ne hne'] at e2
        exact m.apart k k' o1 o2 i1 i2 hkk h1 h2 e1 e2 r1 r2 b1 b2

end
end Go.Sx

/- The symbolic executor, part I: reading memory; operations that leave memory alone. -/
namespace Go.Sx
open Go

/-- What is asked of an operation: it runs, to a value that the abstract one stands for, in a memory that the abstract one stands for. -/
def OpOk (P : Program) (I : Itp) (ρ : List U) (η : Env) (H : List O) (S : Nat → Prop) (w0 w : World) (sem : Sem Next) (r : AR) : Prop :=
  ∃ nx x w' η', sem.run P w = .ok nx w' ∧ (nx = .value x ∨ (nx = .skip ∧ x = undef)) ∧ η.le η' ∧ V.den I ρ η' r.v x ∧ Mem P I ρ η' (applyEff H r.eff) S w0 w'

theorem holds_le {I : Itp} {ρ : List U} {a b : E} (h : ((E.bi .le a b).den I ρ).b = true) : (a.den I ρ).i ≤ (b.den I ρ).i := of_decide_eq_true h
theorem holds_lt {I : Itp} {ρ : List U} {a b : E} (h : ((E.bi .lt a b).den I ρ).b = true) : (a.den I ρ).i < (b.den I ρ).i := of_decide_eq_true h
theorem holds_eq {I : Itp} {ρ : List U} {a b : E} (h : ((E.bi .eq a b).den I ρ).b = true) : (a.den I ρ).i = (b.den I ρ).i := by
  have : ((a.den I ρ).i == (b.den I ρ).i) = true := h
  simpa using this
theorem lit_i (I : Itp) (ρ : List U) (n : Int) : ((E.lit n).den I ρ).i = n := rfl

theorem getD_list (l : List Value) (i : Nat) : (l.toArray).getD i undef = l.getD i undef := by
  simp [Array.getD_eq_getD_getElem?, List.getD_eq_getElem?_getD]

theorem flat_get (ks : List CK) : ∀ (l : List (List Int)), (∀ r ∈ l, r.length = ks.length) → ∀ (r j : Nat) (row : List Int) (k : CK), l[r]? = some row → ks[j]? = some k →
    (l.flatMap (rowVals ks))[r * ks.length + j]? = some (k.val (row.getD j 0))
  | [], _, r, j, row, k, h, _ => by simp at h
  | a :: l, hl, r, j, row, k, h, hk => by
    have ha : (rowVals ks a).length = ks.length := by simp [rowVals, hl a (List.mem_cons_self ..)]
    have hj : j < ks.length := (List.getElem?_eq_some_iff.1 hk).1
    simp only [List.flatMap_cons]
    cases r with
    | zero =>
      simp at h; subst h
      rw [List.getElem?_append_left (by omega)]
      simp only [Nat.zero_mul, Nat.zero_add, rowVals, List.getElem?_zipWith, hk]
      have hl' : j < a.length := by rw [hl a (List.mem_cons_self ..)]; exact hj
      simp [List.getElem?_eq_getElem hl', List.getD_eq_getElem?_getD]
    | succ r =>
      simp at h
      rw [List.getElem?_append_right (by rw [ha, Nat.succ_mul]; omega), ha, show (r + 1) * ks.length + j - ks.length = r * ks.length + j from by rw [Nat.succ_mul]; omega]
      exact flat_get ks l (fun x hx => hl x (List.mem_cons_of_mem _ hx)) r j row k h hk

theorem flat_length (ks : List CK) : ∀ (l : List (List Int)), (∀ r ∈ l, r.length = ks.length) → (l.flatMap (rowVals ks)).length = l.length * ks.length
  | [], _ => by simp
  | a :: l, hl => by
    have ha : (rowVals ks a).length = ks.length := by simp [rowVals, hl a (List.mem_cons_self ..)]
    simp only [List.flatMap_cons, List.length_append, ha, flat_length ks l (fun x hx => hl x (List.mem_cons_of_mem _ hx)), List.length_cons, Nat.succ_mul]
    omega

theorem cell_at {w : World} {b : Nat} {c : Array Value} {ty : TypeId} {fz : Nat × Nat} (h : w.heap[b]? = some (.cells c ty fz)) (k : Nat) : w.cell? ⟨b, k, none⟩ = c[k]? := by
  simp [World.cell?, h]

section
variable {P : Program} {I : Itp} {ρ : List U} {pc : List E} {η : Env} {H : List O} {S : Nat → Prop} {w0 w : World}

theorem Mem.cells_read (m : Mem P I ρ η H S w0 w) {h : Nat} {ro : Bool} {cs : List V} (hl : H[h]? = some (.cells ro cs)) {i : Info} (hi : η h = some i) :
    ∃ c ty fz, w.heap[i.blk]? = some (.cells c ty fz) ∧ (ro = false → fz = (0, 0)) ∧ cs.length ≤ c.size ∧ c.size = i.sz ∧ V.denL I ρ η cs (c.toList.take cs.length) := by
  obtain ⟨j, hj, hd⟩ := m.obj h _ (look_of hl (by intro e; cases e))
  rw [hi] at hj; simp only [Option.some.injEq] at hj; subst hj
  exact hd.2

theorem Mem.cells_bs (m : Mem P I ρ η H S w0 w) {h : Nat} {ro : Bool} {cs : List V} (hl : H[h]? = some (.cells ro cs)) {i : Info} (hi : η h = some i) : i.bs = 0 := by
  obtain ⟨j, hj, hd⟩ := m.obj h _ (look_of hl (by intro e; cases e))
  rw [hi] at hj; simp only [Option.some.injEq] at hj; subst hj
  exact hd.1

theorem Mem.rows_bs (m : Mem P I ρ η H S w0 w) {h : Nat} {ks : List CK} {A : E} (hl : H[h]? = some (.rows false ks A)) {i : Info} (hi : η h = some i) : i.bs = 0 := by
  obtain ⟨j, hj, hd⟩ := m.obj h _ (look_of hl (by intro e; cases e))
  rw [hi] at hj; simp only [Option.some.injEq] at hj; subst hj
  exact hd.2.2.2.1 rfl

/-- rows that may be written begin where their block begins -/
theorem Mem.rows_own (m : Mem P I ρ η H S w0 w) {h : Nat} {ks : List CK} {A : E} (hl : H[h]? = some (.rows false ks A)) {i : Info} (hi : η h = some i) :
    0 < ks.length ∧ i.wd = ks.length ∧ (∀ r ∈ (A.den I ρ).l, r.length = ks.length) ∧
      ((i.sz = 0 ∧ (A.den I ρ).l = []) ∨
       (0 < i.sz ∧ ∃ c ty fz, w.heap[i.blk]? = some (.cells c ty fz) ∧ (false = false → fz = (0, 0)) ∧ (A.den I ρ).l.length * ks.length ≤ c.size ∧ c.size = i.sz ∧
         c.toList.take ((A.den I ρ).l.length * ks.length) = (A.den I ρ).l.flatMap (rowVals ks))) := by
  have hbs := m.rows_bs hl hi
  obtain ⟨j, hj, hd⟩ := m.obj h _ (look_of hl (by intro e; cases e))
  rw [hi] at hj; simp only [Option.some.injEq] at hj; subst hj
  obtain ⟨h1, h2, h3, _, h4⟩ := hd
  refine ⟨h1, h2, h3, ?_⟩
  rcases h4 with h4 | ⟨h5, c, ty, fz, h6, h7, h8, h9, h10, h11⟩
  · exact .inl h4
  · have := h10 rfl
    rw [hbs, List.drop_zero] at h11
    exact .inr ⟨h5, c, ty, fz, h6, h7, by omega, this, h11⟩

theorem den_rows_own {η : Env} {ks : List CK} {A : E} {i : Info} {x : Option Obj} (hbs : i.bs = 0)
    (hd : 0 < ks.length ∧ i.wd = ks.length ∧ (∀ r ∈ (A.den I ρ).l, r.length = ks.length) ∧
      ((i.sz = 0 ∧ (A.den I ρ).l = []) ∨
       (0 < i.sz ∧ ∃ c ty fz, x = some (.cells c ty fz) ∧ (false = false → fz = (0, 0)) ∧ (A.den I ρ).l.length * ks.length ≤ c.size ∧ c.size = i.sz ∧
         c.toList.take ((A.den I ρ).l.length * ks.length) = (A.den I ρ).l.flatMap (rowVals ks)))) : (O.rows false ks A).den P I ρ η i x := by
  obtain ⟨h1, h2, h3, h4⟩ := hd
  refine ⟨h1, h2, h3, fun _ => hbs, ?_⟩
  rcases h4 with h4 | ⟨h5, c, ty, fz, h6, h7, h8, h9, h11⟩
  · exact .inl h4
  · exact .inr ⟨h5, c, ty, fz, h6, h7, by omega, by omega, fun _ => h9, by rw [hbs, List.drop_zero]; exact h11⟩

theorem Mem.cell_read (m : Mem P I ρ η H S w0 w) {h : Nat} {ro : Bool} {cs : List V} (hl : H[h]? = some (.cells ro cs)) {i : Info} (hi : η h = some i) {k : Nat} {v : V} (hv : cs[k]? = some v) :
    ∃ x, w.cell? ⟨i.blk, k, none⟩ = some x ∧ V.den I ρ η v x := by
  obtain ⟨c, ty, fz, hb, _, _, _, hd⟩ := m.cells_read hl hi
  obtain ⟨x, hx, hxd⟩ := V.denL_get k hd hv
  refine ⟨x, ?_, hxd⟩
  rw [cell_at hb]
  rw [List.getElem?_take] at hx
  split at hx
  · simpa using hx
  · simp at hx

theorem Mem.rows_read (m : Mem P I ρ η H S w0 w) {h : Nat} {ro : Bool} {ks : List CK} {A : E} (hl : H[h]? = some (.rows ro ks A)) {i : Info} (hi : η h = some i) :
    0 < ks.length ∧ i.wd = ks.length ∧ (∀ r ∈ (A.den I ρ).l, r.length = ks.length) ∧
      ((i.sz = 0 ∧ (A.den I ρ).l = []) ∨
       (0 < i.sz ∧ ∃ c ty fz, w.heap[i.blk]? = some (.cells c ty fz) ∧ (ro = false → fz = (0, 0)) ∧ (A.den I ρ).l.length * ks.length ≤ i.sz ∧ i.bs + i.sz ≤ c.size ∧ (ro = false → c.size = i.sz) ∧
         (c.toList.drop i.bs).take ((A.den I ρ).l.length * ks.length) = (A.den I ρ).l.flatMap (rowVals ks))) := by
  obtain ⟨j, hj, hd⟩ := m.obj h _ (look_of hl (by intro e; cases e))
  rw [hi] at hj; simp only [Option.some.injEq] at hj; subst hj
  exact ⟨hd.1, hd.2.1, hd.2.2.1, hd.2.2.2.2⟩

theorem mul_add_lt {r n w j : Nat} (h : r < n) (hj : j < w) : r * w + j < n * w := by
  have : (r + 1) * w ≤ n * w := Nat.mul_le_mul_right _ h
  rw [Nat.succ_mul] at this
  omega

theorem Mem.row_read (m : Mem P I ρ η H S w0 w) {h : Nat} {ro : Bool} {ks : List CK} {A : E} (hl : H[h]? = some (.rows ro ks A)) {i : Info} (hi : η h = some i)
    {r j : Nat} {k : CK} (hr : r < (A.den I ρ).l.length) (hk : ks[j]? = some k) :
    w.cell? ⟨i.blk, i.bs + (r * i.wd + j), none⟩ = some (k.val (((A.den I ρ).l.getD r []).getD j 0)) := by
  obtain ⟨hw, hwd, hrows, hd⟩ := m.rows_read hl hi
  have hj : j < ks.length := (List.getElem?_eq_some_iff.1 hk).1
  rcases hd with ⟨_, h0⟩ | ⟨_, c, ty, fz, hb, _, hle, _, _, htake⟩
  · rw [h0] at hr; simp at hr
  · rw [cell_at hb, hwd]
    have h1 := flat_get ks _ hrows r j _ k (List.getElem?_eq_getElem hr) hk
    rw [← htake, List.getElem?_take, if_pos (mul_add_lt hr hj), List.getElem?_drop] at h1
    have h2 : ((A.den I ρ).l.getD r []) = (A.den I ρ).l[r] := by rw [List.getD_eq_getElem?_getD, List.getElem?_eq_getElem hr]; rfl
    rw [h2, ← h1]; simp

theorem i2b_ok {I : Itp} {ρ : List U} (hpc : Holds I ρ pc) (e : E) : ((i2b pc e).den I ρ).b = ((e.den I ρ).i != 0) := by
  unfold i2b
  split
  · simp [E.den]
  · simp only [E.den, TeO.den]
    split <;> simp_all
  · rw [mkC_b hpc]
    simp [E.den, UnO.den, BiO.den, bne]

theorem cellV_ok (hpc : Holds I ρ pc) (k : CK) (e : E) {n : Int} (hn : (e.den I ρ).i = n) : V.den I ρ η (cellV pc k e) (k.val n) := by
  subst hn
  cases k with
  | int k => simp [cellV, V.den, CK.val]
  | bool => simp only [cellV, V.den, CK.val, i2b_ok hpc]

theorem b2i_ok (e : E) : ((b2i e).den I ρ).i = if (e.den I ρ).b then 1 else 0 := by
  unfold b2i
  split
  · rename_i b; cases b <;> rfl
  · simp only [E.den, TeO.den]; split <;> rfl

theorem cellE_ok {k : CK} {v : V} {e : E} {x : Value} (h : cellE k v = some e) (hv : V.den I ρ η v x) : x = k.val (e.den I ρ).i := by
  unfold cellE at h
  split at h
  · split at h
    · simp only [Option.some.injEq] at h; subst h; subst_vars
      rfl
    · simp at h
  · simp only [Option.some.injEq] at h; subst h
    simp only [V.den] at hv
    subst hv
    simp only [CK.val, b2i_ok]
    split <;> simp_all
  · simp at h

theorem natLit_ok {e : E} {n : Nat} (h : natLit e = some n) : e = .lit (n : Int) := by
  unfold natLit at h
  split at h
  · split at h
    · simp only [Option.some.injEq] at h; subst h
      congr 1; omega
    · simp at h
  · simp at h

theorem isAggT_run {t : TypeId} {b : Bool} (h : isAggT P t = some b) (w : World) : (isAgg t).run P w = .ok b w := by
  unfold isAggT at h
  unfold isAgg
  split at h <;> simp_all [run_underlying]

theorem sizeT_run {t : TypeId} {n : Nat} (h : sizeT P t = some n) (w : World) : (sizeOf t).run P w = .ok n w := by
  unfold sizeT at h
  rw [Option.map_eq_some_iff] at h
  obtain ⟨i, hi, rfl⟩ := h
  simp [sizeOf, typeInfo, hi]

theorem colsOf_ok (hpc : Holds I ρ pc) (ks : List CK) (A r : E) (m : Mem P I ρ η H S w0 w) {h : Nat} {ro : Bool} (hl : H[h]? = some (.rows ro ks A)) {i : Info} (hi : η h = some i)
    {R : Nat} (hR : (r.den I ρ).i.toNat = R) (hlt : R < (A.den I ρ).l.length) : ∀ (n j : Nat) (l : List V), colsOf pc ks A r j n = some l →
    ∃ xs : List Value, xs.length = n ∧ V.denL I ρ η l xs ∧ ∀ k x, xs[k]? = some x → w.cell? ⟨i.blk, i.bs + (R * i.wd + j) + k, none⟩ = some x
  | 0, j, l, hc => by
    simp only [colsOf, Option.some.injEq] at hc; subst hc
    exact ⟨[], rfl, by simp [V.denL], fun k x hx => by simp at hx⟩
  | n + 1, j, l, hc => by
    simp only [colsOf] at hc
    split at hc
    · rename_i k l' hk hl'
      simp only [Option.some.injEq] at hc; subst hc
      obtain ⟨xs, hlen, hd, hcell⟩ := colsOf_ok hpc ks A r m hl hi hR hlt n (j + 1) l' hl'
      have hread := m.row_read hl hi hlt hk
      refine ⟨k.val (((A.den I ρ).l.getD R []).getD j 0) :: xs, by simp [hlen], ?_, ?_⟩
      · simp only [V.denL]
        exact ⟨_, _, rfl, cellV_ok hpc k _ (by rw [mkGetT_i hpc, hR]; rfl), hd⟩
      · intro q x hx
        cases q with
        | zero => simp at hx; subst hx; simpa using hread
        | succ q =>
          simp at hx
          have := hcell q x hx
          rw [show i.bs + (R * i.wd + j) + (q + 1) = i.bs + (R * i.wd + (j + 1)) + q from by omega]
          exact this
    · simp at hc

theorem allCols_ok (hpc : Holds I ρ pc) (ks : List CK) (A : E) (m : Mem P I ρ η H S w0 w) {h : Nat} {ro : Bool} (hl : H[h]? = some (.rows ro ks A)) {i : Info} (hi : η h = some i) :
    ∀ (n R : Nat) (l : List V), R + n ≤ (A.den I ρ).l.length → allCols pc ks A R n = some l →
    ∃ xs : List Value, V.denL I ρ η l xs ∧ ∀ k x, xs[k]? = some x → w.cell? ⟨i.blk, i.bs + (R * i.wd + k), none⟩ = some x
  | 0, R, l, _, hc => by
    simp only [allCols, Option.some.injEq] at hc; subst hc
    exact ⟨[], by simp [V.denL], fun k x hx => by simp at hx⟩
  | n + 1, R, l, hle, hc => by
    simp only [allCols] at hc
    split at hc
    · rename_i l1 l2 h1 h2
      simp only [Option.some.injEq] at hc; subst hc
      obtain ⟨xs, hlen, hd, hcell⟩ := colsOf_ok hpc ks A (.lit R) m hl hi (R := R) (by simp [E.den]) (by omega) _ _ _ h1
      obtain ⟨ys, hd', hcell'⟩ := allCols_ok hpc ks A m hl hi n (R + 1) l2 (by omega) h2
      have hwd := (m.rows_read hl hi).2.1
      refine ⟨xs ++ ys, V.denL_append hd hd', fun k x hx => ?_⟩
      rw [List.getElem?_append] at hx
      split at hx
      · have := hcell k x hx
        simpa [Nat.add_assoc] using this
      · have := hcell' _ x hx
        rw [hlen, ← hwd] at this
        rw [hlen] at *
        rw [show R * i.wd + k = (R + 1) * i.wd + (k - i.wd) from by rw [Nat.succ_mul]; omega]
        exact this
    · simp at hc

theorem oneRows_ok {k : IntKind} : ∀ {cs : List V} {l : List E} {xs : List Value}, oneRows k cs = some l → V.denL I ρ η cs xs →
    xs.length = l.length ∧ ∀ (q : Nat), q < l.length → xs[q]? = some (.int k ((((rowsOf l).den I ρ).l.getD q []).getD 0 0))
  | [], l, xs, h, hd => by
    simp only [oneRows, Option.some.injEq] at h; subst h
    simp only [V.denL] at hd; subst hd
    exact ⟨rfl, fun q hq => by simp at hq⟩
  | v :: cs, l, xs, h, hd => by
    unfold oneRows at h
    split at h
    · simp_all
    · rename_i k' e l' heq
      simp only [List.cons.injEq] at heq
      obtain ⟨rfl, rfl⟩ := heq
      split at h
      · subst_vars
        rw [Option.map_eq_some_iff] at h
        obtain ⟨l', hl', rfl⟩ := h
        simp only [V.denL] at hd
        obtain ⟨y, ys, rfl, hy, hys⟩ := hd
        obtain ⟨hlen, hget⟩ := oneRows_ok hl' hys
        refine ⟨by simp [hlen], fun q hq => ?_⟩
        cases q with
        | zero =>
          simp only [V.den] at hy
          subst hy
          simp [rowsOf, rowOf, E.den, BiO.den]
        | succ q =>
          have := hget q (by simpa using hq)
          simpa [rowsOf, E.den, BiO.den] using this
      · simp at h
    · simp at h

theorem Sem.ok_inj {α : Type} {a b : α} {w w' : World} (h : Result.ok a w = Result.ok b w') : a = b ∧ w = w' := by cases h; exact ⟨rfl, rfl⟩

theorem run_loadAgg {t : TypeId} {s : Nat} (ha : isAggT P t = some true) (hs : sizeT P t = some s) {a : Addr} {xs : List Value} (hlen : xs.length = s)
    (hc : ∀ k x, xs[k]? = some x → w.cell? (a.add k) = some x) : (Instr.loadAt t (.pointer (some a))).run P w = .ok (.agg xs.toArray) w := by
  have h1 := isAggT_run ha w
  have h2 := sizeT_run hs w
  have h3 := run_loadCells_list (P := P) (w := w) a xs hc
  rw [hlen] at h3
  simp [Instr.loadAt, Instr.sureAddr, loadVar, h1, h2, h3]

theorem run_loadOne {t : TypeId} (ha : isAggT P t = some false) {a : Addr} {x : Value} (hc : w.cell? a = some x) : (Instr.loadAt t (.pointer (some a))).run P w = .ok x w := by
  have h1 := isAggT_run ha w
  simp [Instr.loadAt, Instr.sureAddr, loadVar, h1, hc]

theorem add_at (b o k : Nat) : (⟨b, o, none⟩ : Addr).add k = ⟨b, o + k, none⟩ := by
  unfold Addr.add
  split
  · subst_vars; rfl
  · rfl

theorem loadR_ok (hpc : Holds I ρ pc) (m : Mem P I ρ η H S w0 w) {t : TypeId} {x : V} {xv : Value} (hx : V.den I ρ η x xv) {r : AR} (h : loadR P pc H t x = .ok r) (hn : Holds I ρ r.needs) :
    ∃ y, (Instr.loadAt t xv).run P w = .ok y w ∧ V.den I ρ η r.v y ∧ r.eff = [] := by
  unfold loadR at h
  split at h
  · rename_i hh rr cc
    simp only [V.den] at hx
    obtain ⟨i, hi, hr0, hc0, rfl⟩ := hx
    split at h
    · -- cells
      rename_i ro cs ag s hl hag hs
      have hbs := m.cells_bs hl hi
      simp only [hbs, Nat.zero_add]
      split at h
      · rename_i c hc
        have hce := natLit_ok hc
        subst hce
        simp only [E.den, Int.toNat_natCast, Int.toNat_zero, Nat.zero_mul, Nat.zero_add]
        split at h
        · subst_vars
          split at h
          · rename_i hle
            simp only [Res.ok.injEq] at h; subst h
            obtain ⟨c', ty, fz, hb, _, hsz, _, hd⟩ := m.cells_read hl hi
            have hd2 := V.denL_take s (V.denL_drop c hd)
            have hlen := V.denL_length hd2
            refine ⟨_, run_loadAgg hag hs (xs := ((c'.toList.take cs.length).drop c).take s) (by rw [hlen]; simp; omega) (fun k x hx => ?_), ?_, rfl⟩
            · rw [add_at, cell_at hb]
              rw [List.getElem?_take] at hx
              split at hx
              · rw [List.getElem?_drop, List.getElem?_take] at hx
                split at hx
                · simpa using hx
                · simp at hx
              · simp at hx
            · simp only [V.den]; exact ⟨_, rfl, hd2⟩
          · simp at h
        · split at h
          · rename_i hag' _ v hv
            simp only [Res.ok.injEq] at h; subst h
            obtain ⟨x, hx, hxd⟩ := m.cell_read hl hi hv
            exact ⟨x, run_loadOne (by cases ag <;> simp_all) hx, hxd, rfl⟩
          · simp at h
      · rename_i hcn
        split at h
        · rename_i k e l
          split at h
          · simp at h
          · split at h
            · rename_i hag' _ l' hrows
              obtain ⟨rv, he, _, hneed⟩ := okR_ok hpc h
              have hneed := hneed hn
              have n1 := holds_le (hneed _ (List.mem_cons_self ..))
              have n2 := holds_lt (hneed _ (List.mem_cons_of_mem _ (List.mem_cons_self ..)))
              simp only [lit_i] at n1 n2
              obtain ⟨c', ty, fz, hb, _, hsz, _, hd⟩ := m.cells_read hl hi
              obtain ⟨hlen, hget⟩ := oneRows_ok hrows hd
              have hlen2 := V.denL_length hd
              have hq : (cc.den I ρ).i.toNat < l'.length := by
                rw [← hlen, hlen2]; omega
              have := hget _ hq
              refine ⟨_, run_loadOne (by cases ag <;> simp_all) (x := .int k ((((rowsOf l').den I ρ).l.getD (cc.den I ρ).i.toNat []).getD 0 0)) ?_, ?_, he⟩
              · simp only [E.den, Int.toNat_zero, Nat.zero_mul, Nat.zero_add]
                rw [cell_at hb]
                rw [List.getElem?_take] at this
                split at this
                · simpa using this
                · simp at this
              · rw [rv]; simp only [V.den]
                rw [mkGetT_i hpc]; rfl
            · simp at h
        · simp at h
      · simp at h
    · -- rows
      rename_i ro ks A ag s hl hag hs
      simp only at h
      split at h
      · rename_i j hj
        have hce := natLit_ok hj
        subst hce
        split at h
        · subst_vars
          split at h
          · split at h
            · rename_i l hcols
              obtain ⟨rv, he, _, hneed⟩ := okR_ok hpc h
              have hneed := hneed hn
              have n1 := holds_le (hneed _ (List.mem_cons_self ..))
              have n2 := holds_lt (hneed _ (List.mem_cons_of_mem _ (List.mem_cons_self ..)))
              simp only [lit_i, mkLen_i hpc] at n1 n2
              obtain ⟨xs, hlen, hd, hcell⟩ := colsOf_ok hpc ks A rr m hl hi (R := (rr.den I ρ).i.toNat) rfl (by omega) _ _ _ hcols
              refine ⟨_, run_loadAgg hag hs hlen (fun k x hx => ?_), ?_, he⟩
              · rw [add_at]; simpa [E.den] using hcell k x hx
              · rw [rv]; simp only [V.den]; exact ⟨_, rfl, hd⟩
            · simp at h
          · split at h
            · rename_i n hlenA _
              split at h
              · rename_i l hall
                split at h
                · rename_i hlen
                  simp only [Res.ok.injEq] at h; subst h
                  have hlA := mkLen_i (I := I) (ρ := ρ) hpc A
                  rw [hlenA] at hlA
                  simp only [E.den] at hlA
                  obtain ⟨xs, hd, hcell⟩ := allCols_ok hpc ks A m hl hi n.toNat 0 l (by omega) hall
                  refine ⟨_, run_loadAgg hag hs (xs := xs) (by rw [V.denL_length hd, hlen]) (fun k x hx => ?_), ?_, rfl⟩
                  · rw [add_at]; simpa [E.den] using hcell k x hx
                  · simp only [V.den]; exact ⟨_, rfl, hd⟩
                · simp at h
              · simp at h
            · simp at h
        · split at h
          · rename_i hag' _ k hk
            obtain ⟨rv, he, _, hneed⟩ := okR_ok hpc h
            have hneed := hneed hn
            have n1 := holds_le (hneed _ (List.mem_cons_self ..))
            have n2 := holds_lt (hneed _ (List.mem_cons_of_mem _ (List.mem_cons_self ..)))
            simp only [lit_i, mkLen_i hpc] at n1 n2
            have hread := m.row_read hl hi (r := (rr.den I ρ).i.toNat) (by omega) hk
            refine ⟨_, run_loadOne (by cases ag <;> simp_all) (by simpa [E.den] using hread), ?_, he⟩
            rw [rv]
            exact cellV_ok hpc k _ (by rw [mkGetT_i hpc]; rfl)
          · simp at h
      · rename_i hcn
        split at h
        · rename_i k ks'
          split at h
          · rename_i hcond
            simp only [Bool.and_eq_true, Bool.not_eq_true'] at hcond
            obtain ⟨rv, he, _, hneed⟩ := okR_ok hpc h
            have hneed := hneed hn
            have n1 := holds_le (hneed _ (List.mem_cons_self ..))
            have n2 := holds_lt (hneed _ (List.mem_cons_of_mem _ (List.mem_cons_self ..)))
            have n3 := holds_le (hneed _ (List.mem_cons_of_mem _ (List.mem_cons_of_mem _ (List.mem_cons_self ..))))
            have n4 := holds_lt (hneed _ (List.mem_cons_of_mem _ (List.mem_cons_of_mem _ (List.mem_cons_of_mem _ (List.mem_cons_self ..)))))
            simp only [lit_i, mkLen_i hpc] at n1 n2 n3 n4
            have hk : (k :: ks')[(cc.den I ρ).i.toNat]? = some k := by
              have hlt : (cc.den I ρ).i.toNat < (k :: ks').length := by omega
              rw [List.getElem?_eq_getElem hlt]
              have := List.all_eq_true.1 hcond.2 _ (List.getElem_mem hlt)
              simpa using of_decide_eq_true this
            have hread := m.row_read hl hi (r := (rr.den I ρ).i.toNat) (by omega) hk
            refine ⟨_, run_loadOne (by rw [hag, hcond.1]) (by simpa [E.den] using hread), ?_, he⟩
            rw [rv]
            exact cellV_ok hpc k _ (mkGetT_i hpc _ _ _)
          · simp at h
        · simp at h
    · simp at h
  · simp at h

end
end Go.Sx

/- The symbolic executor, part J: operations that leave memory alone. -/
namespace Go.Sx
open Go

theorem mkAnd_b (I : Itp) (ρ : List U) (a b : E) : ((mkAnd a b).den I ρ).b = ((a.den I ρ).b && (b.den I ρ).b) := by
  unfold mkAnd
  split <;> simp [E.den, BiO.den]

theorem mkBeq_b {I : Itp} {ρ : List U} {pc : List E} (hpc : Holds I ρ pc) (a b : E) : ((mkBeq pc a b).den I ρ).b = ((a.den I ρ).b == (b.den I ρ).b) := by
  unfold mkBeq
  split
  · simp [E.den]
  · rw [mkC_b hpc, mkNot_ok]; simp [E.den]
  · simp [E.den]
  · rw [mkC_b hpc, mkNot_ok]; simp [E.den]
  · simp [E.den, BiO.den]


section
variable {P : Program} {I : Itp} {ρ : List U} {pc : List E} {η : Env}

theorem run_eqGuard_int (w : World) (op : BinOp) (t : TypeId) (x y : Operand) (k k' : IntKind) (a b : Int) : (eqGuard op t x y (.int k a) (.int k' b)).run P w = .ok () w := by
  unfold eqGuard
  split <;> simp
theorem run_eqGuard_bool (w : World) (op : BinOp) (t : TypeId) (x y : Operand) (a b : Bool) : (eqGuard op t x y (.bool a) (.bool b)).run P w = .ok () w := by
  unfold eqGuard
  split <;> simp

theorem part_run (w : World) {t : TypeId} {ag : Bool} {s : Nat} (ha : isAggT P t = some ag) (hs : sizeT P t = some s) (cs : Array Value) (off : Nat) (hle : off + s ≤ cs.size) (hne : ag = false → 0 < s) :
    (part t cs off).run P w = .ok (asVal ag ((cs.toList.drop off).take s)) w := by
  have h1 := isAggT_run ha w
  have h2 := sizeT_run hs w
  cases ag with
  | true =>
    simp only [part, Sem.run_bind, h1, Result.andThen_ok, if_true, h2, Sem.run_pure, asVal]
    congr 2
    apply Array.toList_inj.1
    simp [Array.toList_extract]
  | false =>
    have h0 := hne rfl
    have hlt : off < cs.size := by omega
    simp only [part, Sem.run_bind, h1, Result.andThen_ok, Bool.false_eq_true, if_false, asVal, Array.getElem?_eq_getElem hlt]
    obtain ⟨s', rfl⟩ : ∃ s', s = s' + 1 := ⟨s - 1, by omega⟩
    rw [List.drop_eq_getElem_cons (by simpa using hlt)]
    simp

theorem size_pos {t : TypeId} {s : Nat} (d : Nat) {xs ys : List V} {e : E} (ha : isAggT P t = some false) (_hs : sizeT P t = some s) (hxs : xs.length = s) (h : eqT P pc d t xs ys = some e) : 0 < s := by
  cases d with
  | zero => simp [eqT] at h
  | succ d =>
    cases xs with
    | nil =>
      unfold isAggT at ha
      unfold eqT at h
      split at h <;> simp_all
    | cons x xs => simp at hxs; omega

theorem eqT_ok (hpc : Holds I ρ pc) : ∀ (d : Nat),
    (∀ (t : TypeId) (xs ys : List V) (e : E) (ag : Bool), eqT P pc d t xs ys = some e → isAggT P t = some ag → ∀ (X Y : List Value), V.denL I ρ η xs X → V.denL I ρ η ys Y →
      ∀ (n : Nat) (w : World), d ≤ n → (Op.equalIn n t (asVal ag X) (asVal ag Y)).run P w = .ok (e.den I ρ).b w) ∧
    (∀ (fs : List Field) (xs ys : List V) (e : E), eqFs P pc d fs xs ys = some e → ∀ (X Y : Array Value), V.denL I ρ η xs X.toList → V.denL I ρ η ys Y.toList →
      ∀ (n : Nat) (w : World), d ≤ n → (Op.eqFields n X Y fs).run P w = .ok (e.den I ρ).b w) ∧
    (∀ (et : TypeId) (s k i : Nat) (xs ys : List V) (e : E), eqAs P pc d et s k i xs ys = some e → sizeT P et = some s → ∀ (X Y : Array Value), V.denL I ρ η xs X.toList → V.denL I ρ η ys Y.toList →
      ∀ (n : Nat) (w : World), d ≤ n → (Op.eqItems n et s X Y (List.range' i k)).run P w = .ok (e.den I ρ).b w)
  | 0 => ⟨fun _ _ _ _ _ h => by simp [eqT] at h, fun _ _ _ _ h => by simp [eqFs] at h, fun _ _ _ _ _ _ _ h => by simp [eqAs] at h⟩
  | d + 1 => by
    obtain ⟨ihT, ihF, ihA⟩ := eqT_ok hpc d
    refine ⟨?_, ?_, ?_⟩
    · intro t xs ys e ag h hag X Y hX hY n w hn
      obtain ⟨n, rfl⟩ : ∃ m, n = m + 1 := ⟨n - 1, by omega⟩
      unfold eqT at h
      split at h
      · rename_i k hk
        have : ag = false := by unfold isAggT at hag; rw [hk] at hag; simpa using hag.symm
        subst this
        split at h
        · split at h
          · simp only [Option.some.injEq] at h; subst h; subst_vars
            simp only [V.denL, V.den] at hX hY
            obtain ⟨_, _, rfl, rfl, rfl⟩ := hX
            obtain ⟨_, _, rfl, rfl, rfl⟩ := hY
            simp only [asVal, Bool.false_eq_true, if_false, List.headD_cons, mkC_b hpc]
            exact run_equalIn_int w n t _ _ _ _ hk
          · simp at h
        · simp at h
      · rename_i hk
        have : ag = false := by unfold isAggT at hag; rw [hk] at hag; simpa using hag.symm
        subst this
        split at h
        · simp only [Option.some.injEq] at h; subst h
          simp only [V.denL, V.den] at hX hY
          obtain ⟨_, _, rfl, rfl, rfl⟩ := hX
          obtain ⟨_, _, rfl, rfl, rfl⟩ := hY
          simp only [asVal, Bool.false_eq_true, if_false, List.headD_cons, mkBeq_b hpc]
          exact run_equalIn_bool' w n t _ _ hk
        · simp at h
      · rename_i fs hk
        have : ag = true := by unfold isAggT at hag; rw [hk] at hag; simpa using hag.symm
        subst this
        split at h
        · simp at h
        · rename_i hst
          have hst' : P.stoodInHeld t = false := by simpa using hst
          have hf : P.fieldsOf t = fs := by simp [Program.fieldsOf, hk]
          simp only [asVal, if_true]
          rw [run_equalIn_struct w n t X.toArray Y.toArray (by rw [hf]; exact hk) hst', hf]
          exact ihF _ _ _ _ h _ _ (by simpa using hX) (by simpa using hY) n w (by omega)
      · rename_i m et hk
        have : ag = true := by unfold isAggT at hag; rw [hk] at hag; simpa using hag.symm
        subst this
        split at h
        · rename_i s hs
          have hs' := hs
          unfold sizeT at hs'
          rw [Option.map_eq_some_iff] at hs'
          obtain ⟨i, hi, hsi⟩ := hs'
          simp only [asVal, if_true]
          rw [run_equalIn_array w n X.toArray Y.toArray hk hi, show P.cellsOf et = s from by simp [Program.cellsOf, hi, hsi], List.range_eq_range']
          exact ihA _ _ _ _ _ _ _ h hs _ _ (by simpa using hX) (by simpa using hY) n w (by omega)
        · simp at h
      · simp at h
    · intro fs xs ys e h X Y hX hY n w hn
      cases fs with
      | nil =>
        simp only [eqFs, Option.some.injEq] at h; subst h
        simp [Op.eqFields, E.den]
      | cons f fs =>
        simp only [eqFs] at h
        split at h
        · rename_i s hs
          split at h
          · simp at h
          · rename_i hc
            simp only [not_or, Nat.not_lt] at hc
            split at h
            · rename_i a b ha hb
              simp only [Option.some.injEq] at h; subst h
              have hxl := V.denL_length hX
              have hyl := V.denL_length hY
              simp only [Array.length_toList] at hxl hyl
              cases hag : isAggT P f.type with
              | none =>
                exfalso
                unfold isAggT at hag
                cases d with
                | zero => simp [eqT] at ha
                | succ d => unfold eqT at ha; split at ha <;> simp_all
              | some ag =>
                have hpos : ag = false → 0 < s := fun e => by
                  subst e
                  exact size_pos d hag hs (by simp; omega) ha
                have p1 := part_run w hag hs X f.offset (by omega) hpos
                have p2 := part_run w hag hs Y f.offset (by omega) hpos
                have q := ihT _ _ _ _ _ ha hag _ _ (V.denL_take s (V.denL_drop f.offset hX)) (V.denL_take s (V.denL_drop f.offset hY)) n w (by omega)
                have q2 := ihF _ _ _ _ hb X Y hX hY n w (by omega)
                simp only [Op.eqFields, ne_eq, hc.1, not_false_eq_true, if_true, Sem.run_bind, p1, p2, q, Result.andThen_ok, Sem.run_ite, Sem.run_pure, q2, mkAnd_b]
                cases (a.den I ρ).b <;> simp
            · simp at h
        · simp at h
    · intro et s k i xs ys e h hs X Y hX hY n w hn
      cases k with
      | zero =>
        simp only [eqAs, Option.some.injEq] at h; subst h
        simp [Op.eqItems, E.den]
      | succ k =>
        simp only [eqAs] at h
        split at h
        · simp at h
        · rename_i hc
          simp only [not_or, Nat.not_lt] at hc
          split at h
          · rename_i a b ha hb
            simp only [Option.some.injEq] at h; subst h
            have hxl := V.denL_length hX
            have hyl := V.denL_length hY
            simp only [Array.length_toList] at hxl hyl
            cases hag : isAggT P et with
            | none =>
              exfalso
              unfold isAggT at hag
              cases d with
              | zero => simp [eqT] at ha
              | succ d => unfold eqT at ha; split at ha <;> simp_all
            | some ag =>
              have hpos : ag = false → 0 < s := fun e => by
                subst e
                exact size_pos d hag hs (by simp; omega) ha
              have p1 := part_run w hag hs X (i * s) (by omega) hpos
              have p2 := part_run w hag hs Y (i * s) (by omega) hpos
              have q := ihT _ _ _ _ _ ha hag _ _ (V.denL_take s (V.denL_drop (i * s) hX)) (V.denL_take s (V.denL_drop (i * s) hY)) n w (by omega)
              have q2 := ihA _ _ _ _ _ _ _ hb hs X Y hX hY n w (by omega)
              simp only [List.range'_succ, Op.eqItems, Sem.run_bind, p1, p2, q, Result.andThen_ok, Sem.run_ite, Sem.run_pure, q2, mkAnd_b]
              cases (a.den I ρ).b <;> simp
          · simp at h

theorem bits_run (op : BinOp) (k : IntKind) (x y : Int) (w : World) (h : op = .and ∨ op = .or ∨ op = .xor ∨ op = .andNot) : (Op.intBits op k x y).run P w = .ok (.int k (bitsOp op k x y)) w := by
  rcases h with rfl | rfl | rfl | rfl <;> simp [Op.intBits, bitsOp]

theorem run_eqGuard_slice (w : World) (op : BinOp) (t : TypeId) (x y : Operand) (a b : Option Addr) (n m c d : Nat) : (eqGuard op t x y (.slice a n c) (.slice b m d)).run P w = .ok () w := by
  unfold eqGuard
  split <;> simp
theorem run_equalIn_slice (w : World) (n : Nat) (t : TypeId) {e : TypeId} (hu : P.underlying t = some (.slice e)) (a : Option Addr) (N C : Nat) : (Op.equalIn (n + 1) t (.slice a N C) (.slice none 0 0)).run P w = .ok a.isNone w := by
  unfold Op.equalIn
  simp only [Sem.run_bind, run_underlying hu, Result.andThen_ok]
  cases a <;> rfl

theorem binR_ok (hpc : Holds I ρ pc) {op : BinOp} {t : TypeId} {x y : V} {xv yv : Value} (hx : V.den I ρ η x xv) (hy : V.den I ρ η y yv) {r : AR} (h : binR P pc op t x y = .ok r)
    (hn : Holds I ρ r.needs) (X Y : Operand) (w : World) :
    ∃ z, (do eqGuard op t X Y xv yv; binOp op t xv yv : Sem Value).run P w = .ok z w ∧ V.den I ρ η r.v z ∧ r.eff = [] := by
  unfold binR at h
  split at h
  · rename_i k a k' b
    simp only [V.den] at hx hy
    subst hx; subst hy
    simp only [Sem.run_bind, run_eqGuard_int, Result.andThen_ok]
    split at h
    · -- shl
      obtain ⟨rv, he, _, hneed⟩ := okR_ok hpc h
      have n1 := holds_le (hneed hn _ (List.mem_cons_self ..))
      simp only [lit_i] at n1
      refine ⟨.int k (bitsOp .shl k (a.den I ρ).i (b.den I ρ).i), ?_, ?_, he⟩
      · have : ¬ (b.den I ρ).i < 0 := by omega
        simp only [binOp]
        simp [Op.shift, this, bitsOp]
      · rw [rv]
        simp only [V.den]
        rw [mkWrap_i hpc]
        split
        · simp [E.den, bitsOp]
        · simp [mkMul_i, E.den, bitsOp]
        · simp only [E.den, BiO.den, bitsOp]
          congr 1
          exact (wrap_fit (wrap_bounds _ _).1 (wrap_bounds _ _).2).symm
    · -- shr
      obtain ⟨rv, he, _, hneed⟩ := okR_ok hpc h
      have n1 := holds_le (hneed hn _ (List.mem_cons_self ..))
      simp only [lit_i] at n1
      refine ⟨.int k (bitsOp .shr k (a.den I ρ).i (b.den I ρ).i), ?_, ?_, he⟩
      · have : ¬ (b.den I ρ).i < 0 := by omega
        simp only [binOp]
        simp [Op.shift, this, bitsOp]
      · rw [rv]
        simp only [V.den]
        split
        · simp [E.den]
        · simp only [E.den, BiO.den]
    · split at h
      · simp at h
      · rename_i hkk
        have hkk' : k = k' := by simpa using hkk
        subst hkk'
        split at h
        · simp only [Res.ok.injEq] at h; subst h
          exact ⟨_, by simp [binOp, Op.intArith]; rfl, by simp [V.den, mkWrap_i hpc, mkAdd_i], rfl⟩
        · simp only [Res.ok.injEq] at h; subst h
          exact ⟨_, by simp [binOp, Op.intArith]; rfl, by simp [V.den, mkWrap_i hpc, mkSub_i], rfl⟩
        · simp only [Res.ok.injEq] at h; subst h
          exact ⟨_, by simp [binOp, Op.intArith]; rfl, by simp [V.den, mkWrap_i hpc, mkMul_i], rfl⟩
        · obtain ⟨rv, he, _, hneed⟩ := okR_ok hpc h
          have n1 := hneed hn _ (List.mem_cons_self ..)
          simp [E.den, UnO.den, BiO.den] at n1
          exact ⟨_, by simp [binOp, Op.intDiv, n1]; rfl, by rw [rv]; simp [V.den, mkWrap_i hpc, mkQuo_i], he⟩
        · obtain ⟨rv, he, _, hneed⟩ := okR_ok hpc h
          have n1 := hneed hn _ (List.mem_cons_self ..)
          simp [E.den, UnO.den, BiO.den] at n1
          exact ⟨_, by simp [binOp, Op.intDiv, n1]; rfl, by rw [rv]; simp [V.den, mkRem_i hpc], he⟩
        all_goals (first | (simp only [Res.ok.injEq] at h; subst h) | skip)
        · exact ⟨_, by simp [binOp, bits_run]; rfl, by simp only [V.den]; split <;> simp [E.den, BiO.den], rfl⟩
        · exact ⟨_, by simp [binOp, bits_run]; rfl, by simp only [V.den]; split <;> simp [E.den, BiO.den], rfl⟩
        · exact ⟨_, by simp [binOp, bits_run]; rfl, by simp only [V.den]; split <;> simp [E.den, BiO.den], rfl⟩
        · exact ⟨_, by simp [binOp, bits_run]; rfl, by simp only [V.den]; split <;> simp [E.den, BiO.den], rfl⟩
        · exact ⟨_, by simp [binOp, Op.intCmp]; rfl, by simp [V.den, mkC_b hpc, E.den, BiO.den], rfl⟩
        · exact ⟨_, by simp [binOp, Op.intCmp]; rfl, by simp [V.den, mkC_b hpc, mkNot_ok, E.den, BiO.den, bne], rfl⟩
        · exact ⟨_, by simp [binOp, Op.intCmp]; rfl, by simp [V.den, mkC_b hpc, E.den, BiO.den], rfl⟩
        · exact ⟨_, by simp [binOp, Op.intCmp]; rfl, by simp [V.den, mkC_b hpc, E.den, BiO.den], rfl⟩
        · exact ⟨_, by simp [binOp, Op.intCmp]; rfl, by simp [V.den, mkC_b hpc, E.den, BiO.den], rfl⟩
        · exact ⟨_, by simp [binOp, Op.intCmp]; rfl, by simp [V.den, mkC_b hpc, E.den, BiO.den], rfl⟩
        · simp at h
  · rename_i a b
    simp only [V.den] at hx hy
    subst hx; subst hy
    simp only [Sem.run_bind, run_eqGuard_bool, Result.andThen_ok]
    split at h
    · rename_i hu
      simp only [Res.ok.injEq] at h; subst h
      refine ⟨.bool ((a.den I ρ).b == (b.den I ρ).b), ?_, by simp [V.den, mkBeq_b hpc], rfl⟩
      simp only [binOp]
      simp [Op.equal, Op.maxDepth, run_equalIn_bool' w 9999 t _ _ hu]
    · rename_i hu
      simp only [Res.ok.injEq] at h; subst h
      refine ⟨.bool (!((a.den I ρ).b == (b.den I ρ).b)), ?_, by simp [V.den, mkC_b hpc, mkNot_ok, mkBeq_b hpc], rfl⟩
      simp only [binOp]
      simp [Op.equal, Op.maxDepth, run_equalIn_bool' w 9999 t _ _ hu]
    · simp at h
  · rename_i xs ys
    simp only [V.den] at hx hy
    obtain ⟨X', rfl, hX⟩ := hx
    obtain ⟨Y', rfl, hY⟩ := hy
    split at h
    · simp at h
    · rename_i hguard
      simp only [Bool.or_eq_true, not_or, Bool.not_eq_true, bne_iff_ne, ne_eq, Classical.not_not] at hguard
      have hguard' := hguard.1
      have hag := hguard.2
      simp only [Sem.run_bind, run_eqGuard_agg w op t X Y X' Y' hguard', Result.andThen_ok]
      split at h
      · rename_i e he
        have hrun := (eqT_ok (η := η) hpc 40).1 _ _ _ _ _ he hag _ _ hX hY 10000 w (by omega)
        simp only [asVal, if_true, Array.toArray_toList] at hrun
        split at h
        · simp only [Res.ok.injEq] at h; subst h
          exact ⟨_, by rw [run_eql_struct, hrun]; rfl, by simp [V.den], rfl⟩
        · simp only [Res.ok.injEq] at h; subst h
          exact ⟨_, by rw [run_neq_struct, hrun]; rfl, by simp [V.den, mkC_b hpc, mkNot_ok], rfl⟩
        · simp at h
      · simp at h
  · rename_i hh ww oo nn cc
    have some_of : Holds I ρ [.un .not (.bi .eq nn (.lit 0))] → ∃ A N C, xv = .slice (some A) N C := by
      intro hq
      have hq := hq _ (List.mem_cons_self ..)
      simp only [E.den, UnO.den, BiO.den, Bool.not_eq_true', beq_eq_false_iff_ne] at hq
      simp only [V.den] at hx
      obtain ⟨i, _, _, _, hx⟩ := hx
      rcases hx with ⟨_, _, _, h0, _⟩ | ⟨C, f, _, _, _, _, rfl⟩
      · exact (hq h0).elim
      · exact ⟨_, _, _, rfl⟩
    have hy' : yv = .slice none 0 0 := by simpa only [V.den] using hy
    subst hy'
    split at h
    · rename_i e hu
      obtain ⟨rv, he, _, hneed⟩ := okR_ok hpc h
      obtain ⟨A, N, C, rfl⟩ := some_of (hneed hn)
      refine ⟨.bool false, ?_, by rw [rv]; simp [V.den, E.den], he⟩
      simp only [binOp]
      simp [Op.equal, Op.maxDepth, run_eqGuard_slice, run_equalIn_slice w 9999 t hu]
    · rename_i e hu
      obtain ⟨rv, he, _, hneed⟩ := okR_ok hpc h
      obtain ⟨A, N, C, rfl⟩ := some_of (hneed hn)
      refine ⟨.bool true, ?_, by rw [rv]; simp [V.den, E.den], he⟩
      simp only [binOp]
      simp [Op.equal, Op.maxDepth, run_eqGuard_slice, run_equalIn_slice w 9999 t hu]
    · simp at h
  · have hx' : xv = .slice none 0 0 := by simpa only [V.den] using hx
    have hy' : yv = .slice none 0 0 := by simpa only [V.den] using hy
    subst hx' hy'
    split at h
    · rename_i e hu
      simp only [Res.ok.injEq] at h; subst h
      refine ⟨.bool true, ?_, by simp [V.den, E.den], rfl⟩
      simp only [binOp]
      simp [Op.equal, Op.maxDepth, run_eqGuard_slice, run_equalIn_slice w 9999 t hu]
    · rename_i e hu
      simp only [Res.ok.injEq] at h; subst h
      refine ⟨.bool false, ?_, by simp [V.den, E.den], rfl⟩
      simp only [binOp]
      simp [Op.equal, Op.maxDepth, run_eqGuard_slice, run_equalIn_slice w 9999 t hu]
    · simp at h
  · simp at h

theorem unR_ok (hpc : Holds I ρ pc) {op : UnOp} {x : V} {xv : Value} (hx : V.den I ρ η x xv) {r : AR} (h : unR pc op x = .ok r) (w : World) :
    ∃ z, (Op.unary op xv).run P w = .ok z w ∧ V.den I ρ η r.v z ∧ r.eff = [] := by
  unfold unR at h
  split at h
  · simp only [Res.ok.injEq] at h; subst h
    simp only [V.den] at hx; subst hx
    exact ⟨_, by simp [Op.unary, Op.intArith]; rfl, by simp [V.den, mkWrap_i hpc, mkSub_i, E.den], rfl⟩
  · simp only [Res.ok.injEq] at h; subst h
    simp only [V.den] at hx; subst hx
    exact ⟨_, by simp [Op.unary]; rfl, by simp [V.den, mkC_b hpc, mkNot_ok], rfl⟩
  · simp at h

theorem pickR_ok (hpc : Holds I ρ pc) {c a b : V} {cv av bv : Value} (hc : V.den I ρ η c cv) (ha : V.den I ρ η a av) (hb : V.den I ρ η b bv) {r : AR} (h : pickR pc c a b = .ok r) (w : World) :
    ∃ z, (do pure (.value (if ← asBool cv then av else bv)) : Sem Next).run P w = .ok (.value z) w ∧ V.den I ρ η r.v z ∧ r.eff = [] := by
  unfold pickR at h
  split at h
  · rename_i c
    simp only [V.den] at hc
    subst hc
    refine ⟨if (c.den I ρ).b then av else bv, by simp [asBool], ?_⟩
    split at h
    · rename_i hd
      simp only [Res.ok.injEq] at h; subst h
      rw [decC_ok hpc _ _ hd]; exact ⟨ha, rfl⟩
    · rename_i hd
      simp only [Res.ok.injEq] at h; subst h
      rw [decC_ok hpc _ _ hd]; exact ⟨hb, rfl⟩
    · split at h
      · simp only [V.den] at ha hb
        subst ha; subst hb
        split at h
        · simp only [Res.ok.injEq] at h; subst h
          refine ⟨?_, rfl⟩
          simp only [V.den, E.den, BiO.den]
          cases (c.den I ρ).b <;> simp
        · simp only [Res.ok.injEq] at h; subst h
          refine ⟨?_, rfl⟩
          simp only [V.den, E.den, BiO.den]
          cases (c.den I ρ).b <;> simp
        · simp only [Res.ok.injEq] at h; subst h
          refine ⟨?_, rfl⟩
          simp only [V.den, E.den, TeO.den]
          cases (c.den I ρ).b <;> simp
      · split at h
        · simp only [V.den] at ha hb
          subst ha; subst hb; subst_vars
          simp only [Res.ok.injEq] at h; subst h
          refine ⟨?_, rfl⟩
          simp only [V.den, E.den, TeO.den]
          cases (c.den I ρ).b <;> simp
        · simp at h
      · simp at h
  · simp at h

theorem partR_ok {t : TypeId} {cs : List V} {xs : Array Value} (hx : V.denL I ρ η cs xs.toList) {off : Nat} {r : AR} (h : partR P t cs off = .ok r) (w : World) :
    ∃ z, (part t xs off).run P w = .ok z w ∧ V.den I ρ η r.v z ∧ r.eff = [] ∧ r.needs = [] := by
  have hlen := V.denL_length hx
  simp only [Array.length_toList] at hlen
  unfold partR at h
  split at h
  · rename_i s ha hs
    split at h
    · simp only [Res.ok.injEq] at h; subst h
      refine ⟨_, part_run w ha hs xs off (by omega) (fun e => by simp at e), ?_, rfl, rfl⟩
      simp only [asVal, if_true, V.den]
      exact ⟨_, rfl, by simpa using V.denL_take s (V.denL_drop off hx)⟩
    · simp at h
  · rename_i s ha hs
    split at h
    · rename_i v hv
      simp only [Res.ok.injEq] at h; subst h
      obtain ⟨x, hx', hd⟩ := V.denL_get off hx hv
      refine ⟨x, ?_, hd, rfl, rfl⟩
      have h1 := isAggT_run ha w
      have : xs[off]? = some x := by simpa using hx'
      simp [part, h1, this]
    · simp at h
  · simp at h

theorem fieldR_ok {t : TypeId} {x : V} {xv : Value} (hx : V.den I ρ η x xv) {i : Nat} {r : AR} (h : fieldR P t x i = .ok r) (w : World) :
    ∃ z, (Instr.field t xv i).run P w = .ok z w ∧ V.den I ρ η r.v z ∧ r.eff = [] := by
  unfold fieldR at h
  split at h
  · rename_i cs fs hu
    simp only [V.den] at hx
    obtain ⟨xs, rfl, hxs⟩ := hx
    split at h
    · rename_i f hf
      obtain ⟨z, hz, hd, he, _⟩ := partR_ok hxs h w
      exact ⟨z, by simp [Instr.field, run_underlying hu, hf, asAgg, hz], hd, he⟩
    · simp at h
  · simp at h

theorem den_ptr_plus {h : Nat} {r c : E} {n : Nat} {i : Info} (hi : η h = some i) (hr : 0 ≤ (r.den I ρ).i) (hc : 0 ≤ (c.den I ρ).i) :
    V.den I ρ η (.ptr h r (plus c (n : Int))) (.pointer (some ⟨i.blk, i.bs + ((r.den I ρ).i.toNat * i.wd + (c.den I ρ).i.toNat) + n, none⟩)) := by
  simp only [V.den]
  refine ⟨i, hi, hr, by rw [plus_i]; omega, ?_⟩
  rw [plus_i]
  congr 3
  omega

theorem fieldAddrR_ok {t : TypeId} {x : V} {xv : Value} (hx : V.den I ρ η x xv) {k : Nat} {r : AR} (h : fieldAddrR P t x k = .ok r) (w : World) :
    ∃ z, (Instr.fieldAt t xv k).run P w = .ok z w ∧ V.den I ρ η r.v z ∧ r.eff = [] := by
  unfold fieldAddrR at h
  split at h
  · rename_i hh rr cc fs hu
    simp only [V.den] at hx
    obtain ⟨i, hi, hr0, hc0, rfl⟩ := hx
    split at h
    · rename_i f hf
      split at h
      · rename_i s hs
        split at h
        · simp at h
        · rename_i hs0
          simp only [Res.ok.injEq] at h; subst h
          refine ⟨_, ?_, den_ptr_plus hi hr0 hc0, rfl⟩
          simp [Instr.fieldAt, run_underlying hu, hf, Instr.sureAddr, fieldPlace, sizeT_run hs, hs0, add_at]
      · simp at h
    · simp at h
  · simp at h

theorem rowW_ok {H : List O} {S : Nat → Prop} {w0 w : World} (m : Mem P I ρ η H S w0 w) {h s : Nat} (hr : rowW H h = some s) {i : Info} (hi : η h = some i) : i.wd = s := by
  unfold rowW at hr
  split at hr
  · rename_i ro ks A hl
    simp only [Option.some.injEq] at hr; subst hr
    exact (m.rows_read hl hi).2.1
  · simp at hr

theorem toNat_add_mul (a b : Int) (w : Nat) (ha : 0 ≤ a) (hb : 0 ≤ b) : (a + b).toNat * w = a.toNat * w + b.toNat * w := by
  rw [Int.toNat_add ha hb, Nat.add_mul]

theorem toNat_add_mul' {a b : Int} {w : Nat} (ha : 0 ≤ a) (hb : 0 ≤ b) : (a + b).toNat * w = a.toNat * w + b.toNat * w := toNat_add_mul a b w ha hb

theorem toNat_mul_nat (a : Int) (n : Nat) (ha : 0 ≤ a) : (a * (n : Int)).toNat = a.toNat * n := by
  obtain ⟨k, rfl⟩ := Int.eq_ofNat_of_zero_le ha
  rw [← Int.natCast_mul, Int.toNat_natCast, Int.toNat_natCast]

theorem indexAddrR_ok (hpc : Holds I ρ pc) {H : List O} {S : Nat → Prop} {w0 w : World} (m : Mem P I ρ η H S w0 w) {t : TypeId} {x ix : V} {xv iv : Value} (hx : V.den I ρ η x xv) (hix : V.den I ρ η ix iv)
    {r : AR} (h : indexAddrR P pc H t x ix = .ok r) (hn : Holds I ρ r.needs) :
    ∃ z, (Instr.indexAt t xv iv).run P w = .ok z w ∧ V.den I ρ η r.v z ∧ r.eff = [] := by
  unfold indexAddrR at h
  split at h
  · rename_i k i
    simp only [V.den] at hix
    subst hix
    split at h
    · rename_i n e hh rr cc hu
      simp only [V.den] at hx
      obtain ⟨j, hj, hr0, hc0, rfl⟩ := hx
      split at h
      · rename_i s hs
        split at h
        · simp at h
        · obtain ⟨rv, he, _, hneed⟩ := okR_ok hpc h
          have n1 := holds_le (hneed hn _ (List.mem_cons_self ..))
          have n2 := holds_lt (hneed hn _ (List.mem_cons_of_mem _ (List.mem_cons_self ..)))
          simp only [lit_i] at n1 n2
          refine ⟨.pointer (some ⟨j.blk, j.bs + ((rr.den I ρ).i.toNat * j.wd + (cc.den I ρ).i.toNat) + (i.den I ρ).i.toNat * s, none⟩), ?_, ?_, he⟩
          · simp [Instr.indexAt, asIntOf, run_underlying hu, Instr.sureAddr, n1, n2, sizeT_run hs, add_at]
          · rw [rv]
            split
            · rename_i hcond
              simp only [Bool.and_eq_true, decide_eq_true_eq] at hcond
              have hwd := rowW_ok m hcond.1 hj
              have hc := E.same_eq hcond.2
              subst hc
              simp only [V.den]
              refine ⟨j, hj, by rw [mkAdd_i]; omega, by simp [E.den], ?_⟩
              rw [mkAdd_i, toNat_add_mul _ _ _ hr0 n1, hwd]
              simp [E.den, Nat.add_assoc]
            · simp only [V.den]
              refine ⟨j, hj, hr0, ?_, ?_⟩
              · rw [mkAdd_i, mkMul_i, lit_i]
                have := Int.mul_nonneg n1 (Int.natCast_nonneg s)
                omega
              · rw [mkAdd_i, mkMul_i, lit_i, Int.toNat_add hc0 (Int.mul_nonneg n1 (Int.natCast_nonneg s)), toNat_mul_nat _ _ n1, Nat.add_assoc, Nat.add_assoc]
      · simp at h
    · rename_i e hh ww off len cap hu
      simp only [V.den] at hx
      obtain ⟨j, hj, ho0, hl0, hx⟩ := hx
      split at h
      · rename_i s hs
        split at h
        · simp at h
        · rename_i hsw
          have hsw' : s = ww := by simpa using hsw
          subst hsw'
          obtain ⟨rv, he, _, hneed⟩ := okR_ok hpc h
          have n1 := holds_le (hneed hn _ (List.mem_cons_self ..))
          have n2 := holds_lt (hneed hn _ (List.mem_cons_of_mem _ (List.mem_cons_self ..)))
          simp only [lit_i] at n1 n2
          rcases hx with ⟨_, _, _, hz, _⟩ | ⟨C, f, hf, hC, hsz, hcap, rfl⟩
          · omega
          · have hf' := hf (by omega)
            subst hf'
            have hlt : (i.den I ρ).i < (((len.den I ρ).i.toNat : Nat) : Int) := by omega
            refine ⟨.pointer (some ⟨j.blk, j.bs + (off.den I ρ).i.toNat * s + (i.den I ρ).i.toNat * s, none⟩), ?_, ?_, he⟩
            · simp [Instr.indexAt, asIntOf, run_underlying hu, n1, sizeT_run hs, add_at]
              omega
            · rw [rv]
              split
              · rename_i hcond
                have hwd := rowW_ok m hcond hj
                simp only [V.den]
                refine ⟨j, hj, by rw [mkAdd_i]; omega, by simp [E.den], ?_⟩
                rw [mkAdd_i, toNat_add_mul _ _ _ ho0 n1, hwd]
                simp [E.den, Nat.add_assoc]
              · simp only [V.den]
                refine ⟨j, hj, by simp [E.den], ?_, ?_⟩
                · rw [mkMul_i, mkAdd_i]
                  simp only [lit_i]
                  exact Int.mul_nonneg (by omega) (Int.natCast_nonneg s)
                · rw [mkMul_i, mkAdd_i]
                  simp only [lit_i]
                  rw [toNat_mul_nat _ _ (by omega), toNat_add_mul' ho0 n1]
                  simp [Nat.add_assoc]
      · simp at h
    · simp at h
  · simp at h

theorem indexR_ok (hpc : Holds I ρ pc) {t : TypeId} {x ix : V} {xv iv : Value} (hx : V.den I ρ η x xv) (hix : V.den I ρ η ix iv)
    {r : AR} (h : indexR P pc t x ix = .ok r) (hn : Holds I ρ r.needs) (w : World) :
    ∃ z, (Instr.index t xv iv).run P w = .ok z w ∧ V.den I ρ η r.v z ∧ r.eff = [] := by
  unfold indexR at h
  split at h
  · rename_i cs k i n e hu
    simp only [V.den] at hx hix
    obtain ⟨xs, rfl, hxs⟩ := hx
    subst hix
    have hlen := V.denL_length hxs
    simp only [Array.length_toList] at hlen
    split at h
    · rename_i s hs
      split at h
      · rename_i i
        split at h
        · rename_i hb
          obtain ⟨z, hz, hd, he, _⟩ := partR_ok hxs h w
          refine ⟨z, ?_, hd, he⟩
          simp only [Instr.index, Sem.run_bind, asIntOf, Sem.run_pure, Result.andThen_ok, run_underlying hu, E.den, hb, and_self, if_true, sizeT_run hs, hz]
        · simp at h
      · split at h
        · rename_i hcond
          simp only [Bool.and_eq_true, decide_eq_true_eq, beq_iff_eq] at hcond
          obtain ⟨⟨hs1, hcn⟩, hag⟩ := hcond
          subst hs1
          split at h
          · rename_i k' e' l
            split at h
            · rename_i l' hrows
              obtain ⟨rv, he, _, hneed⟩ := okR_ok hpc h
              have n1 := holds_le (hneed hn _ (List.mem_cons_self ..))
              have n2 := holds_lt (hneed hn _ (List.mem_cons_of_mem _ (List.mem_cons_self ..)))
              simp only [lit_i] at n1 n2
              obtain ⟨hl1, hget⟩ := oneRows_ok hrows hxs
              simp only [Array.length_toList] at hl1
              have hq : (i.den I ρ).i.toNat < l'.length := by have e1 := hlen; have e2 := hcn; have e3 := hl1; omega
              have hg := hget _ hq
              refine ⟨_, ?_, by rw [rv]; simp only [V.den]; rw [mkGetT_i hpc], he⟩
              have h1 := isAggT_run hag w
              have h2 : xs[(i.den I ρ).i.toNat * 1]? = some (.int k' ((((rowsOf l').den I ρ).l.getD (i.den I ρ).i.toNat []).getD 0 0)) := by rw [Nat.mul_one]; simpa using hg
              simp only [Instr.index, Sem.run_bind, asIntOf, Sem.run_pure, Result.andThen_ok, run_underlying hu, n1, n2, and_self, if_true, sizeT_run hs, part, h1, Bool.false_eq_true, if_false, h2]
              rfl
            · simp at h
          · simp at h
        · simp at h
    · simp at h
  · simp at h

theorem lenR_ok {H : List O} {S : Nat → Prop} {w0 w : World} (m : Mem P I ρ η H S w0 w) {t : TypeId} {x : V} {xv : Value} (hx : V.den I ρ η x xv) {r : AR} (h : lenR P H t x = .ok r) (ts : List TypeId) (vs : List Value) (ty : TypeId) :
    ∃ z, (Builtin.len_ (t :: ts).toArray ty (xv :: vs).toArray).run P w = .ok z w ∧ V.den I ρ η r.v z ∧ r.eff = [] := by
  unfold lenR at h
  split at h
  · rename_i e hh ww off len cap hu
    simp only [Res.ok.injEq] at h; subst h
    simp only [V.den] at hx
    obtain ⟨j, hj, ho0, hl0, hx⟩ := hx
    rcases hx with ⟨rfl, _, _, hz, _⟩ | ⟨C, f, hf, hC, hsz, hcap, rfl⟩
    · exact ⟨_, by simp [Builtin.len_, run_underlying hu]; rfl, by simp only [V.den, goInt]; simp [hz], rfl⟩
    · exact ⟨_, by simp [Builtin.len_, run_underlying hu]; rfl, by simp only [V.den, goInt]; congr 1; omega, rfl⟩
  · rename_i e hu
    simp only [Res.ok.injEq] at h; subst h
    simp only [V.den] at hx; subst hx
    exact ⟨_, by simp [Builtin.len_, run_underlying hu]; rfl, by simp [V.den, goInt, E.den], rfl⟩
  · rename_i n e hu
    simp only [Res.ok.injEq] at h; subst h
    exact ⟨_, by simp [Builtin.len_, run_underlying hu]; rfl, by simp [V.den, goInt, E.den], rfl⟩
  · rename_i a hu
    split at h
    · rename_i n e hu2
      simp only [Res.ok.injEq] at h; subst h
      exact ⟨_, by simp [Builtin.len_, run_underlying hu, run_underlying hu2]; rfl, by simp [V.den, goInt, E.den], rfl⟩
    · simp at h
  · rename_i k e hu
    simp only [Res.ok.injEq] at h; subst h
    simp only [V.den] at hx; subst hx
    exact ⟨_, by simp [Builtin.len_, run_underlying hu]; rfl, by simp [V.den, goInt, E.den], rfl⟩
  · rename_i k e hh hu
    simp only [V.den] at hx
    obtain ⟨j, hj, rfl⟩ := hx
    split at h
    · rename_i ks vs ka va A hl
      simp only [Res.ok.injEq] at h; subst h
      obtain ⟨j', hj', hd⟩ := m.obj hh _ (look_of hl (by intro e; cases e))
      rw [hj] at hj'; simp only [Option.some.injEq] at hj'; subst hj'
      obtain ⟨_, hb⟩ := hd
      refine ⟨goInt (A.den I ρ).l.length, ?_, by simp [V.den, goInt, mkLen_i (I := I) (ρ := ρ) (pc := []) (fun _ h => by cases h)], rfl⟩
      simp [Builtin.len_, run_underlying hu, getObj, Sem.run, hb, mapCells_length]
    · simp at h
  · simp at h

theorem minmaxR_ok (hpc : Holds I ρ pc) {f : List E → E → E → E} {g : Int → Int → Int} {step : Value → Value → Sem Value}
    (hf : ∀ a b : E, ((f pc a b).den I ρ).i = g (a.den I ρ).i (b.den I ρ).i) (hs : ∀ k k' a b w, (step (.int k a) (.int k' b)).run P w = .ok (.int k (g a b)) w) (w : World) :
    ∀ (l : List V) (x : V) (xv : Value) (ls : List Value) (r : AR), V.den I ρ η x xv → V.denL I ρ η l ls → minmaxR pc f x l = .ok r →
      ∃ z, (ls.foldlM step xv).run P w = .ok z w ∧ V.den I ρ η r.v z ∧ r.eff = [] ∧ r.needs = []
  | [], x, xv, ls, r, hx, hl, h => by
    have : minmaxR pc f x [] = .ok { v := x } := by cases x <;> rfl
    rw [this] at h
    simp only [Res.ok.injEq] at h; subst h
    simp only [V.denL] at hl; subst hl
    exact ⟨xv, by simp, hx, rfl, rfl⟩
  | y :: l, x, xv, ls, r, hx, hl, h => by
    unfold minmaxR at h
    split at h
    · simp_all
    · rename_i k a k' b l' heq
      simp only [List.cons.injEq] at heq
      obtain ⟨rfl, rfl⟩ := heq
      split at h
      · rename_i hkk
        subst hkk
        simp only [V.denL, V.den] at hl hx
        obtain ⟨y', ys, rfl, hy', hys⟩ := hl
        subst hy'
        subst hx
        obtain ⟨z, hz, hd⟩ := minmaxR_ok hpc hf hs w l _ (.int k (g (a.den I ρ).i (b.den I ρ).i)) ys r (by simp [V.den, hf]) hys h
        exact ⟨z, by simp [List.foldlM_cons, hs, hz], hd⟩
      · simp at h
    · simp at h

end
end Go.Sx

/- The symbolic executor, part K: operations that write or make memory. -/
namespace Go.Sx
open Go

theorem not_not_true {b : Bool} (h : ¬ (!b) = true) : b = true := by cases b <;> simp_all

theorem set_take_drop {α : Type} : ∀ (l vs : List α) (n : Nat), n + vs.length ≤ l.length → ∀ (k : Nat), (l.take n ++ vs ++ l.drop (n + vs.length))[k]? = if n ≤ k ∧ k < n + vs.length then vs[k - n]? else l[k]? := by
  intro l vs n hle k
  by_cases h1 : k < n
  · rw [List.append_assoc, List.getElem?_append_left (by simp; omega), List.getElem?_take, if_pos h1, if_neg (by omega)]
  · by_cases h2 : k < n + vs.length
    · rw [List.getElem?_append_left (by simp; omega), List.getElem?_append_right (by simp; omega), if_pos (by omega)]
      congr 1; simp; omega
    · rw [List.getElem?_append_right (by simp; omega), if_neg (by omega), List.getElem?_drop]
      congr 1; simp; omega

theorem setCells_length : ∀ (vs cs : List V) (c : Nat), (setCells cs c vs).length = cs.length
  | [], cs, c => rfl
  | v :: vs, cs, c => by simp [setCells, setCells_length vs]

section
variable {P : Program} {I : Itp} {ρ : List U} {pc : List E} {η : Env} {H : List O} {S : Nat → Prop} {w0 w : World}

theorem setCells_denL : ∀ (vs cs : List V) (c : Nat) (X Y : List Value), V.denL I ρ η cs X → V.denL I ρ η vs Y → c + vs.length ≤ cs.length →
    V.denL I ρ η (setCells cs c vs) (X.take c ++ Y ++ X.drop (c + Y.length))
  | [], cs, c, X, Y, hX, hY, _ => by
    simp only [V.denL] at hY; subst hY
    simpa [setCells] using hX
  | v :: vs, cs, c, X, Y, hX, hY, hle => by
    simp only [V.denL] at hY
    obtain ⟨y, ys, rfl, hy, hys⟩ := hY
    simp only [List.length_cons] at hle
    have hlen := V.denL_length hX
    have ih := setCells_denL vs (cs.set c v) (c + 1) (X.set c y) ys (V.denL_set c hX hy) hys (by simp; omega)
    simp only [setCells]
    have e : (X.set c y).take (c + 1) ++ ys ++ (X.set c y).drop (c + 1 + ys.length) = X.take c ++ (y :: ys) ++ X.drop (c + (ys.length + 1)) := by
      rw [List.drop_set_of_lt (by omega)]
      rw [show (X.set c y).take (c + 1) = X.take c ++ [y] from by
        rw [List.take_succ_eq_append_getElem (by simp; omega), List.take_set_of_le (by omega)]
        simp]
      simp [Nat.add_assoc, Nat.add_comm 1]
    rw [e] at ih
    exact ih

theorem atom_cells {v : V} {x : Value} (hv : V.den I ρ η v x) (ha : v.isAtom = true) : x.oneCell' = true ∧ x.cells = #[x] := by
  cases v <;> simp [V.isAtom] at ha <;> simp only [V.den] at hv
  · subst hv; exact ⟨rfl, rfl⟩
  · subst hv; exact ⟨rfl, rfl⟩
  · obtain ⟨_, _, _, _, rfl⟩ := hv; exact ⟨rfl, rfl⟩
  · subst hv; exact ⟨rfl, rfl⟩
  · obtain ⟨_, _, _, _, hx⟩ := hv
    rcases hx with ⟨rfl, _⟩ | ⟨_, _, _, _, _, _, rfl⟩ <;> exact ⟨rfl, rfl⟩
  · subst hv; exact ⟨rfl, rfl⟩
  · obtain ⟨_, rfl, _⟩ := hv; exact ⟨rfl, rfl⟩
  · subst hv; exact ⟨rfl, rfl⟩
  · obtain ⟨_, _, rfl⟩ := hv; exact ⟨rfl, rfl⟩
  · obtain ⟨_, _, rfl⟩ := hv; exact ⟨rfl, rfl⟩
  · subst hv; exact ⟨rfl, rfl⟩

theorem atoms_one : ∀ {cs : List V} {xs : List Value}, V.denL I ρ η cs xs → cs.all V.isAtom = true → ∀ u ∈ xs, u.oneCell' = true
  | [], xs, h, _, u, hu => by simp only [V.denL] at h; subst h; simp at hu
  | c :: cs, xs, h, ha, u, hu => by
    simp only [V.denL] at h
    obtain ⟨y, ys, rfl, hy, hys⟩ := h
    simp only [List.all_cons, Bool.and_eq_true] at ha
    rcases List.mem_cons.1 hu with rfl | hu
    · exact (atom_cells hy ha.1).1
    · exact atoms_one hys ha.2 u hu

theorem cellsOf_ok {v : V} {x : Value} (hv : V.den I ρ η v x) {vs : List V} (h : v.cellsOf = some vs) :
    V.denL I ρ η vs x.cells.toList ∧ (∀ u ∈ x.cells.toList, u.oneCell' = true) ∧ vs.all V.isAtom = true := by
  unfold V.cellsOf at h
  split at h
  · rename_i cs
    split at h
    · rename_i ha
      simp only [Option.some.injEq] at h; subst h
      simp only [V.den] at hv
      obtain ⟨xs, rfl, hxs⟩ := hv
      exact ⟨hxs, atoms_one hxs ha, ha⟩
    · simp at h
  · simp at h
  · simp at h
  · rename_i h1 h2 h3
    simp only [Option.some.injEq] at h; subst h
    have ha : v.isAtom = true := by
      cases v <;> simp_all [V.isAtom]
    obtain ⟨h4, h5⟩ := atom_cells hv ha
    rw [h5]
    refine ⟨?_, by simpa using h4, by simp [ha]⟩
    simp only [V.denL]
    exact ⟨x, [], rfl, hv, rfl⟩

theorem run_storeAt {t : TypeId} {s : Nat} (hs : sizeT P t = some s) {b o : Nat} {cur : Array Value} {ty : TypeId} {x : Value} (hb : w.heap[b]? = some (.cells cur ty (0, 0))) (hlen : x.cells.size = s)
    (hle : o + s ≤ cur.size) (h1 : ∀ u ∈ x.cells.toList, u.oneCell' = true) :
    (Instr.storeAt t (.pointer (some ⟨b, o, none⟩)) x).run P w = .ok () (w.setRow b (cur.toList.take o ++ x.cells.toList ++ cur.toList.drop (o + s)).toArray) := by
  have h2 := run_storeCells_at P b o ty x.cells.toList 0 cur w hb (by simp [hlen]; omega) h1
  simp only [Nat.add_zero, Array.length_toList, hlen] at h2
  simp [Instr.storeAt, Instr.sureAddr, storeVar, sizeT_run hs, hlen, h2]

/-- the flattened rows once a number is set -/
theorem flat_set (ks : List CK) : ∀ (l : List (List Int)), (∀ r ∈ l, r.length = ks.length) → ∀ (r j : Nat) (k : CK) (n : Int), r < l.length → ks[j]? = some k →
    (setAt l r j n).flatMap (rowVals ks) = (l.flatMap (rowVals ks)).set (r * ks.length + j) (k.val n)
  | [], _, r, j, k, n, hr, _ => by simp at hr
  | a :: l, hl, r, j, k, n, hr, hk => by
    have ha0 := hl a (List.mem_cons_self ..)
    have ha : (rowVals ks a).length = ks.length := by simp [rowVals, ha0]
    have hj : j < ks.length := (List.getElem?_eq_some_iff.1 hk).1
    cases r with
    | zero =>
      simp only [setAt, List.getD_cons_zero, List.set_cons_zero, List.flatMap_cons, Nat.zero_mul, Nat.zero_add]
      rw [List.set_append_left _ _ (by omega)]
      congr 1
      apply List.ext_getElem?
      intro q
      simp only [rowVals, List.getElem?_zipWith, List.getElem?_set, List.length_zipWith, ha0, Nat.min_self]
      by_cases hq : j = q
      · subst hq
        have hkj : ks[j] = k := by rw [List.getElem?_eq_getElem hj] at hk; simpa using hk
        simp [hj, hkj]
      · simp [hq]
    | succ r =>
      simp only [List.length_cons] at hr
      have ih := flat_set ks l (fun x hx => hl x (List.mem_cons_of_mem _ hx)) r j k n (by omega) hk
      simp only [setAt, List.getD_cons_succ, List.set_cons_succ, List.flatMap_cons] at ih ⊢
      rw [List.set_append_right _ _ (by rw [ha, Nat.succ_mul]; omega), ha, show (r + 1) * ks.length + j - ks.length = r * ks.length + j from by rw [Nat.succ_mul]; omega, ← ih]

theorem setAt_rows {l : List (List Int)} {w : Nat} (hl : ∀ r ∈ l, r.length = w) (i j : Nat) (x : Int) : ∀ r ∈ setAt l i j x, r.length = w := by
  intro r hr
  by_cases hi : i < l.length
  · unfold setAt at hr
    rcases List.mem_or_eq_of_mem_set hr with h | h
    · exact hl r h
    · subst h
      simp only [List.length_set, List.getD_eq_getElem?_getD, List.getElem?_eq_getElem hi, Option.getD_some]
      exact hl _ (List.getElem_mem hi)
  · rw [setAt, List.set_eq_of_length_le (by omega)] at hr
    exact hl r hr

/-- a block's cells with some of them written -/
theorem take_written (c : Array Value) (o : Nat) (Y : List Value) (n : Nat) (ho : o + Y.length ≤ n) (hn : n ≤ c.size) :
    ((c.toList.take o ++ Y ++ c.toList.drop (o + Y.length)).toArray.toList).take n = (c.toList.take n).take o ++ Y ++ (c.toList.take n).drop (o + Y.length) := by
  apply List.ext_getElem?
  intro k
  rw [List.getElem?_take]
  have h1 := set_take_drop c.toList Y o (by simp; omega) k
  have h2 := set_take_drop (c.toList.take n) Y o (by simp; omega) k
  rw [h2, show (c.toList.take o ++ Y ++ c.toList.drop (o + Y.length)).toArray.toList = c.toList.take o ++ Y ++ c.toList.drop (o + Y.length) from rfl, h1, List.getElem?_take]
  split
  · rfl
  · split
    · omega
    · rfl

theorem size_written (c : Array Value) (o : Nat) (Y : List Value) (ho : o + Y.length ≤ c.size) :
    (c.toList.take o ++ Y ++ c.toList.drop (o + Y.length)).toArray.size = c.size := by
  simp; omega

/-- A list of rows may be spelled otherwise. -/
theorem Mem.congrO {w' : World} {h : Nat} {ro : Bool} {ks : List CK} {A B : E} (m : Mem P I ρ η (setO H h (.rows ro ks A)) S w0 w') (_e : ro = false) (hAB : (A.den I ρ).l = (B.den I ρ).l) :
    Mem P I ρ η (setO H h (.rows ro ks B)) S w0 w' := by
  have hA : O.rows ro ks A ≠ .free := by intro e; cases e
  have hB : O.rows ro ks B ≠ .free := by intro e; cases e
  have key : ∀ k o, look (setO H h (.rows ro ks B)) k = some o → ∃ o', look (setO H h (.rows ro ks A)) k = some o' ∧ o'.isRo = o.isRo ∧ (∀ i, o'.hasBlk i ↔ o.hasBlk i) ∧ (∀ η i x, o'.den P I ρ η i x → o.den P I ρ η i x) := by
    intro k o hk
    rw [look_setO hB] at hk
    rw [look_setO hA]
    split at hk
    · simp only [Option.some.injEq] at hk; subst hk
      rename_i hkh
      refine ⟨.rows ro ks A, by rw [if_pos hkh], rfl, fun i => Iff.rfl, fun η i x hd => ?_⟩
      simp only [O.den] at hd ⊢
      rw [← hAB]; exact hd
    · rename_i hkh
      exact ⟨o, by rw [if_neg hkh]; exact hk, rfl, fun _ => Iff.rfl, fun _ _ _ hd => hd⟩
  refine ⟨?_, ?_, ?_, ?_, ?_, m.keeps⟩
  · intro k hk
    refine m.free k ?_
    rw [look_setO hB] at hk
    rw [look_setO hA]
    split at hk
    · simp at hk
    · rename_i hkh; rw [if_neg hkh]; exact hk
  · intro k o hk
    obtain ⟨o', h1, _, _, h4⟩ := key k o hk
    obtain ⟨i, hi, hd⟩ := m.obj k o' h1
    exact ⟨i, hi, h4 _ _ _ hd⟩
  · intro k o i hk hi hr hb
    obtain ⟨o', h1, h2, h3, _⟩ := key k o hk
    exact m.old k o' i h1 hi (h2.trans hr) ((h3 i).2 hb)
  · intro k o i hk hi hr hb
    obtain ⟨o', h1, h2, h3, _⟩ := key k o hk
    exact m.own k o' i h1 hi (h2.trans hr) ((h3 i).2 hb)
  · intro k k' o1 o2 i1 i2 hkk h1 h2 e1 e2 r1 r2 b1 b2
    obtain ⟨p1, q1, s1, t1, _⟩ := key k o1 h1
    obtain ⟨p2, q2, s2, t2, _⟩ := key k' o2 h2
    exact m.apart k k' p1 p2 i1 i2 hkk q1 q2 e1 e2 (s1.trans r1) (s2.trans r2) ((t1 i1).2 b1) ((t2 i2).2 b2)

theorem setCols_ok (ks : List CK) (r : E) : ∀ (vs : List V) (A A' : E) (j : Nat) (Y : List Value), setCols ks A r j vs = some A' → V.denL I ρ η vs Y →
    (r.den I ρ).i.toNat < (A.den I ρ).l.length → (∀ x ∈ (A.den I ρ).l, x.length = ks.length) →
    (A'.den I ρ).l.length = (A.den I ρ).l.length ∧ (∀ x ∈ (A'.den I ρ).l, x.length = ks.length) ∧ (vs ≠ [] → j + vs.length ≤ ks.length) ∧
    (A'.den I ρ).l.flatMap (rowVals ks) = ((A.den I ρ).l.flatMap (rowVals ks)).take ((r.den I ρ).i.toNat * ks.length + j) ++ Y ++ ((A.den I ρ).l.flatMap (rowVals ks)).drop ((r.den I ρ).i.toNat * ks.length + j + Y.length)
  | [], A, A', j, Y, h, hY, hr, hl => by
    simp only [setCols, Option.some.injEq] at h; subst h
    simp only [V.denL] at hY; subst hY
    exact ⟨rfl, hl, fun h => (h rfl).elim, by simp⟩
  | v :: vs, A, A', j, Y, h, hY, hr, hl => by
    simp only [setCols] at h
    split at h
    · rename_i k hk
      split at h
      · rename_i e he
        simp only [V.denL] at hY
        obtain ⟨y, ys, rfl, hy, hys⟩ := hY
        have hye := cellE_ok he hy
        subst hye
        have hjk : j < ks.length := (List.getElem?_eq_some_iff.1 hk).1
        have hden : ((E.se A r (.lit j) e).den I ρ).l = setAt (A.den I ρ).l (r.den I ρ).i.toNat j (e.den I ρ).i := by simp [E.den]
        have hlen : ((E.se A r (.lit j) e).den I ρ).l.length = (A.den I ρ).l.length := by rw [hden, length_setAt]
        obtain ⟨h1, h2, h3, h4⟩ := setCols_ok ks r vs (.se A r (.lit j) e) A' (j + 1) ys h hys (by rw [hlen]; exact hr) (by rw [hden]; exact setAt_rows hl _ _ _)
        refine ⟨by rw [h1, hlen], h2, fun _ => ?_, ?_⟩
        · cases vs with
          | nil => simp; omega
          | cons u us => have := h3 (by simp); simp at this ⊢; omega
        · rw [h4, hden, flat_set ks _ hl _ j k _ hr hk]
          have hfl := flat_length ks _ hl
          have hlt := mul_add_lt (w := ks.length) hr hjk
          generalize (A.den I ρ).l.flatMap (rowVals ks) = F at *
          generalize hq : (r.den I ρ).i.toNat * ks.length + j = q at *
          rw [show (r.den I ρ).i.toNat * ks.length + (j + 1) = q + 1 from by omega]
          rw [List.drop_set_of_lt (by omega)]
          rw [show (F.set q (k.val (e.den I ρ).i)).take (q + 1) = F.take q ++ [k.val (e.den I ρ).i] from by
            rw [List.take_succ_eq_append_getElem (by simp; omega), List.take_set_of_le (by omega)]
            simp]
          simp [Nat.add_assoc, Nat.add_comm 1]
      · simp at h
    · simp at h

theorem storeR_ok (hpc : Holds I ρ pc) (m : Mem P I ρ η H S w0 w) {t : TypeId} {x v : V} {xv vv : Value} (hx : V.den I ρ η x xv) (hv : V.den I ρ η v vv) {r : AR}
    (h : storeR P pc H t x v = .ok r) (hn : Holds I ρ r.needs) :
    ∃ w', (Instr.storeAt t xv vv).run P w = .ok () w' ∧ r.v = .tup [] ∧ Mem P I ρ η (applyEff H r.eff) S w0 w' := by
  unfold storeR at h
  split at h
  · rename_i hh rr cc vs s hvs hs
    simp only [V.den] at hx
    obtain ⟨i, hi, hr0, hc0, rfl⟩ := hx
    obtain ⟨hcd, hone, hat⟩ := cellsOf_ok hv hvs
    have hvlen := V.denL_length hcd
    split at h
    · simp at h
    · rename_i hvl
      have hvl' : vs.length = s := by simpa using hvl
      split at h
      · -- cells
        rename_i cs hl
        have hbs := m.cells_bs hl hi
        split at h
        · rename_i c hc
          have hce := natLit_ok hc
          subst hce
          split at h
          · rename_i hle
            simp only [Res.ok.injEq] at h; subst h
            obtain ⟨c', ty, fz, hb, hfz, hsz, hszi, hd⟩ := m.cells_read hl hi
            have hfz' := hfz rfl
            subst hfz'
            have hsize : vv.cells.size = s := by simpa [hvl'] using hvlen
            simp only [hbs, lit_i, Int.toNat_natCast, Int.toNat_zero, Nat.zero_mul, Nat.zero_add]
            refine ⟨_, run_storeAt hs hb hsize (by omega) hone, by first | rfl | trivial, ?_⟩
            simp only [applyEff]
            have hYlen : vv.cells.toList.length = s := by simpa using hsize
            refine m.write (look_of hl (by intro e; cases e)) hi rfl trivial rfl rfl rfl (by simp) (fun b _ hne => setRow_other _ _ _ _ hne) rfl (by intro e; cases e) ?_
            rw [setRow_heap w i.blk c' _ ty (0, 0) hb]
            refine ⟨hbs, _, ty, (0, 0), rfl, fun _ => rfl, ?_, ?_, ?_⟩
            · rw [setCells_length, ← hYlen, size_written _ _ _ (by omega)]; exact hsz
            · rw [← hYlen, size_written _ _ _ (by omega)]; exact hszi
            · rw [setCells_length, ← hYlen, take_written _ _ _ _ (by omega) hsz]
              exact setCells_denL vs cs c _ _ hd hcd (by omega)
          · simp at h
        · simp at h
      · -- rows
        rename_i ks A hl
        simp only at h
        obtain ⟨hw, hwd, hrows, hden⟩ := m.rows_own hl hi
        have hbs := m.rows_bs hl hi
        simp only [hbs, Nat.zero_add]
        -- the store itself, once it is known where and what
        have fin : ∀ (j : Nat) (A' : E), setCols ks A rr j vs = some A' → (cc.den I ρ).i.toNat = j → (rr.den I ρ).i < ((A.den I ρ).l.length : Int) → vs ≠ [] →
            ∃ w', (Instr.storeAt t (.pointer (some ⟨i.blk, (rr.den I ρ).i.toNat * i.wd + (cc.den I ρ).i.toNat, none⟩)) vv).run P w = .ok () w' ∧ Mem P I ρ η (setO H hh (.rows false ks A')) S w0 w' := by
          intro j A' hset hcj hlt hne
          rcases hden with ⟨_, h0⟩ | ⟨hpos, c', ty, fz, hb, hfz, hle, hszi, htake⟩
          · rw [h0] at hlt; simp at hlt; omega
          · have hfz' := hfz rfl
            subst hfz'
            have hR : (rr.den I ρ).i.toNat < (A.den I ρ).l.length := by omega
            obtain ⟨h1, h2, h3, h4⟩ := setCols_ok ks rr vs A A' j _ hset hcd hR hrows
            have h3' := h3 hne
            have hsize : vv.cells.size = s := by simpa [hvl'] using hvlen
            have hYlen : vv.cells.toList.length = s := by simpa using hsize
            have hbound : (rr.den I ρ).i.toNat * ks.length + (j + s) ≤ (A.den I ρ).l.length * ks.length := by
              have h5 : ((rr.den I ρ).i.toNat + 1) * ks.length ≤ (A.den I ρ).l.length * ks.length := Nat.mul_le_mul_right _ hR
              rw [Nat.succ_mul] at h5
              omega
            rw [hwd, hcj]
            refine ⟨_, run_storeAt hs hb hsize (by omega) hone, ?_⟩
            refine m.write (look_of hl (by intro e; cases e)) hi rfl hpos rfl rfl rfl (by simp) (fun b _ hne => setRow_other _ _ _ _ hne) rfl (by intro e; cases e) ?_
            rw [setRow_heap w i.blk c' _ ty (0, 0) hb]
            refine den_rows_own hbs ⟨hw, hwd, h2, .inr ⟨hpos, _, ty, (0, 0), rfl, fun _ => rfl, ?_, ?_, ?_⟩⟩
            · rw [h1, ← hYlen, size_written _ _ _ (by omega)]; exact hle
            · rw [← hYlen, size_written _ _ _ (by omega)]; exact hszi
            · rw [h1, h4, ← hYlen, take_written _ _ _ _ (by omega) hle, htake]
        split at h
        · rename_i j hj
          have hce := natLit_ok hj
          subst hce
          split at h
          · rename_i A' hset
            obtain ⟨rv, he, _, hneed⟩ := okR_ok hpc h
            have n2 := holds_lt (hneed hn _ (List.mem_cons_of_mem _ (List.mem_cons_self ..)))
            simp only [mkLen_i hpc] at n2
            rw [he, rv]
            by_cases hne : vs = []
            · subst hne
              simp only [setCols, Option.some.injEq] at hset; subst hset
              simp only [V.denL] at hcd
              have hs0 : s = 0 := by simpa using hvl'.symm
              subst hs0
              rcases hden with ⟨_, h0⟩ | ⟨hpos, c', ty, fz, hb, hfz, hle, hszi, htake⟩
              · rw [h0] at n2; simp at n2; omega
              · refine ⟨w, ?_, rfl, ?_⟩
                · have hsz0 : vv.cells.size = 0 := by simpa using hvlen
                  have hl0 : vv.cells.toList = [] := hcd
                  simp [Instr.storeAt, Instr.sureAddr, storeVar, sizeT_run hs, hsz0, hl0, storeCells]
                · simp only [applyEff]
                  exact m.write (look_of hl (by intro e; cases e)) hi rfl hpos rfl rfl rfl (Nat.le_refl _) (fun _ _ _ => rfl) rfl (by intro e; cases e) (by
                    obtain ⟨j', hj', hd'⟩ := m.obj hh _ (look_of hl (by intro e; cases e))
                    rw [hi] at hj'; simp only [Option.some.injEq] at hj'; subst hj'
                    exact hd')
            · obtain ⟨w', hw', hm'⟩ := fin j A' hset (by simp [E.den]) n2 hne
              exact ⟨w', hw', rfl, hm'⟩
          · simp at h
        · split at h
          · rename_i k ks' v'
            split at h
            · rename_i hsame
              split at h
              · rename_i e he
                obtain ⟨rv, hee, _, hneed⟩ := okR_ok hpc h
                have n2 := holds_lt (hneed hn _ (List.mem_cons_of_mem _ (List.mem_cons_self ..)))
                have n3 := holds_le (hneed hn _ (List.mem_cons_of_mem _ (List.mem_cons_of_mem _ (List.mem_cons_self ..))))
                have n4 := holds_lt (hneed hn _ (List.mem_cons_of_mem _ (List.mem_cons_of_mem _ (List.mem_cons_of_mem _ (List.mem_cons_self ..)))))
                simp only [lit_i, mkLen_i hpc] at n2 n3 n4
                rw [hee, rv]
                -- the same store at the column's number
                have hk : (k :: ks')[(cc.den I ρ).i.toNat]? = some k := by
                  have hlt : (cc.den I ρ).i.toNat < (k :: ks').length := by omega
                  rw [List.getElem?_eq_getElem hlt]
                  have := List.all_eq_true.1 hsame _ (List.getElem_mem hlt)
                  simpa using of_decide_eq_true this
                obtain ⟨w', hw', hm'⟩ := fin (cc.den I ρ).i.toNat (.se A rr (.lit ((cc.den I ρ).i.toNat : Nat)) e) (by simp [setCols, hk, he]) rfl n2 (by simp)
                refine ⟨w', hw', rfl, ?_⟩
                simp only [applyEff]
                exact hm'.congrO rfl (by simp only [E.den, Int.toNat_natCast])
              · simp at h
            · simp at h
          · simp at h
      · simp at h
  · simp at h

/-- The world has grown by a block that nothing stands for. -/
theorem Mem.grow {w' : World} (m : Mem P I ρ η H S w0 w) {ob : Obj} (hheap : w'.heap = w.heap.push ob) (hos : w'.os = w.os) (htape : w'.tape = w.tape) (hout : w'.output = w.output) : Mem P I ρ η H S w0 w' := by
  have hkeep : ∀ b, b < w.heap.size → w'.heap[b]? = w.heap[b]? := fun b hb => by rw [hheap, Array.getElem?_push, if_neg (by omega)]
  refine ⟨m.free, ?_, m.old, m.own, m.apart, m.keeps.step (T := fun _ => False) ⟨hos, htape, hout, by rw [hheap]; simp, fun b hb _ => hkeep b hb⟩ (fun _ h => h.elim)⟩
  intro k o hk
  obtain ⟨i, hi, hd⟩ := m.obj k o hk
  exact ⟨i, hi, O.den_congr hd (fun hb => hkeep _ (O.block_there hd hb))⟩

/-! ### new memory -/

theorem look_none_len (H : List O) : look H H.length = none := look_none_of (by simp)

/-- A new block of cells that are all written out. -/
theorem Mem.newCells (m : Mem P I ρ η H S w0 w) {fr : Nat} (hfr : look H fr = none) {cs : List V} {c : Array Value} {ty : TypeId} (hd : V.denL I ρ η cs (c.toList.take cs.length)) (hle : cs.length ≤ c.size)
    {w' : World} (hheap : w'.heap = w.heap.push (.cells c ty)) (hos : w'.os = w.os) (htape : w'.tape = w.tape) (hout : w'.output = w.output) (wd : Nat) :
    Mem P I ρ (η.ext fr ⟨w.heap.size, c.size, wd, 0⟩) (setO H fr (.cells false cs)) S w0 w' := by
  refine m.fresh hfr hheap hos htape hout rfl rfl (by intro e; cases e) ?_
  exact ⟨rfl, c, ty, (0, 0), rfl, fun _ => rfl, hle, rfl, V.denL_mono (Env.le_ext _ (m.free fr hfr)) _ _ hd⟩

theorem constA_ok (x : Value) : V.den I ρ η (constA x) x := by
  unfold constA
  split <;> simp [V.den, E.den]

theorem constAs_ok : ∀ l : List Value, V.denL I ρ η (l.map constA) l
  | [] => by simp [V.denL]
  | x :: l => by
    simp only [List.map_cons, V.denL]
    exact ⟨_, _, rfl, constA_ok x, constAs_ok l⟩

theorem constV_ok (x : Value) : V.den I ρ η (constV x) x := by
  unfold constV
  split
  · simp only [V.den]; exact ⟨_, rfl, constAs_ok _⟩
  · split
    · rename_i cs hc
      simp only [V.den, V.denL]
      refine ⟨cs, rfl, ?_⟩
      simpa using hc
    · simp [V.den]
  · split
    · rename_i f a b hc
      simp only [Bool.and_eq_true, List.isEmpty_iff] at hc
      simp only [V.den, V.denL]
      refine ⟨b, ?_, hc.2⟩
      congr
      simpa using hc.1
    · simp [V.den]
  · exact constA_ok _

theorem zeroCellsV_ok {t : TypeId} {z : List V} (h : zeroCellsV P t = some z) : ∃ i zv, P.info? t = some i ∧ i.zero = some zv ∧ V.denL I ρ η z zv.cells.toList ∧ (∀ u ∈ zv.cells.toList, u.oneCell' = true) ∧ z.length = zv.cells.size ∧
    ∀ w, (zeroValue t).run P w = .ok zv w := by
  unfold zeroCellsV at h
  split at h
  · rename_i i hi
    split at h
    · rename_i zv hz
      obtain ⟨h1, h2, _⟩ := cellsOf_ok (I := I) (ρ := ρ) (η := η) (constV_ok zv) h
      refine ⟨i, zv, hi, hz, h1, h2, ?_, fun w => by simp [zeroValue, typeInfo, hi, hz]⟩
      have := V.denL_length h1
      simpa using this.symm
    · simp at h
  · simp at h

theorem den_ptr0 {fr b sz wd : Nat} (hi : η fr = some ⟨b, sz, wd, 0⟩) : V.den I ρ η (.ptr fr (.lit 0) (.lit 0)) (.pointer (some ⟨b, 0, none⟩)) := by
  simp only [V.den]
  exact ⟨_, hi, by simp [E.den], by simp [E.den], by simp [E.den]⟩

theorem allocR_ok (m : Mem P I ρ η H S w0 w) {fr : Nat} (hfr : look H fr = none) {t : TypeId} {r : AR} (h : allocR P fr t = .ok r) :
    ∃ z w' η', (Instr.alloc t true (.tuple #[])).run P w = .ok z w' ∧ η.le η' ∧ V.den I ρ η' r.v z ∧ Mem P I ρ η' (applyEff H r.eff) S w0 w' := by
  unfold allocR at h
  split at h
  · rename_i z hz
    simp only [Res.ok.injEq] at h; subst h
    obtain ⟨i, zv, hi, hzv, hd, h1, hl, hrun⟩ := zeroCellsV_ok (I := I) (ρ := ρ) (η := η) hz
    refine ⟨.pointer (some ⟨w.heap.size, 0, none⟩), w.alloc (.cells zv.cells t), η.ext fr ⟨w.heap.size, zv.cells.size, 0, 0⟩, ?_, Env.le_ext _ (m.free fr hfr), ?_, ?_⟩
    · simp [Instr.alloc, hrun, newVar, newRow]
    · exact den_ptr0 (Env.ext_self ..)
    · simp only [applyEff]
      exact m.newCells hfr (c := zv.cells) (ty := t) (w' := w.alloc (.cells zv.cells t)) (by rw [hl, List.take_of_length_le (by simp)]; exact hd) (by omega) rfl rfl rfl rfl 0
  · simp at h

theorem boxR_ok (m : Mem P I ρ η H S w0 w) {fr : Nat} (hfr : look H fr = none) {t : TypeId} {x : V} {xv : Value} (hx : V.den I ρ η x xv) {r : AR} (h : boxR fr x = .ok r) :
    ∃ z w' η', (Instr.box t xv).run P w = .ok z w' ∧ η.le η' ∧ V.den I ρ η' r.v z ∧ Mem P I ρ η' (applyEff H r.eff) S w0 w' := by
  unfold boxR at h
  split at h
  · rename_i cs hcs
    simp only [Res.ok.injEq] at h; subst h
    obtain ⟨hd, h1, _⟩ := cellsOf_ok hx hcs
    have hl := V.denL_length hd
    simp only [Array.length_toList] at hl
    refine ⟨.pointer (some ⟨w.heap.size, 0, none⟩), w.alloc (.cells xv.cells t), η.ext fr ⟨w.heap.size, xv.cells.size, 0, 0⟩, ?_, Env.le_ext _ (m.free fr hfr), ?_, ?_⟩
    · simp [Instr.box, newVar, newRow]
    · exact den_ptr0 (Env.ext_self ..)
    · simp only [applyEff]
      exact m.newCells hfr (c := xv.cells) (ty := t) (w' := w.alloc (.cells xv.cells t)) (by rw [← hl, List.take_of_length_le (by simp)]; exact hd) (by omega) rfl rfl rfl rfl 0
  · simp at h

theorem foldl_write (off : Nat) : ∀ (l : List Value) (k : Nat) (cells : Array Value), off + k + l.length ≤ cells.size →
    ((l.zipIdx k).foldl (fun cs (x : Value × Nat) => cs.setIfInBounds (off + x.2) x.1) cells).toList = cells.toList.take (off + k) ++ l ++ cells.toList.drop (off + k + l.length)
  | [], k, cells, _ => by simp
  | v :: l, k, cells, h => by
    simp only [List.length_cons] at h
    simp only [List.zipIdx_cons, List.foldl_cons]
    rw [foldl_write off l (k + 1) (cells.setIfInBounds (off + k) v) (by simp; omega)]
    simp only [Array.toList_setIfInBounds]
    rw [List.drop_set_of_lt (by omega)]
    rw [show off + (k + 1) = off + k + 1 from by omega, List.take_succ_eq_append_getElem (by simp; omega), List.take_set_of_le (by omega)]
    simp [Nat.add_assoc, Nat.add_comm 1]

theorem fill_cells (off : Nat) (v : Array Value) (cells : Array Value) (h : off + v.size ≤ cells.size) :
    (v.zipIdx.foldl (fun cs (x : Value × Nat) => cs.setIfInBounds (off + x.2) x.1) cells).toList = cells.toList.take off ++ v.toList ++ cells.toList.drop (off + v.size) := by
  rw [← Array.foldl_toList, Array.toList_zipIdx]
  have := foldl_write off v.toList 0 cells (by simpa using h)
  simpa using this

/-- the parts of a composite literal -/
def partsDen (I : Itp) (ρ : List U) (η : Env) : List (Nat × V) → List (Nat × Value) → Prop
  | [], xs => xs = []
  | (i, v) :: ps, xs => ∃ y ys, xs = (i, y) :: ys ∧ V.den I ρ η v y ∧ partsDen I ρ η ps ys

theorem fillV_ok {t : TypeId} {place : Nat → Option (Nat × Nat)} (hp : ∀ i off s, placeOf P t i = some (off, s) → place i = some (off, s)) :
    ∀ (ps : List (Nat × V)) (cs cs' : List V) (Z : Array Value) (xs : List (Nat × Value)), fillV P t cs ps = some cs' → V.denL I ρ η cs Z.toList → partsDen I ρ η ps xs →
      ∃ Z', Instr.fill place Z xs = some Z' ∧ V.denL I ρ η cs' Z'.toList
  | [], cs, cs', Z, xs, h, hd, hx => by
    simp only [fillV, Option.some.injEq] at h; subst h
    simp only [partsDen] at hx; subst hx
    exact ⟨Z, rfl, hd⟩
  | (i, v) :: ps, cs, cs', Z, xs, h, hd, hx => by
    simp only [fillV] at h
    split at h
    · rename_i off s vs hpl hvs
      split at h
      · rename_i hc
        simp only [partsDen] at hx
        obtain ⟨y, ys, rfl, hy, hys⟩ := hx
        obtain ⟨hcd, _, _⟩ := cellsOf_ok hy hvs
        have hyl := V.denL_length hcd
        have hzl := V.denL_length hd
        simp only [Array.length_toList] at hyl hzl
        have hset := setCells_denL vs cs off _ _ hd hcd (by omega)
        have hfc := fill_cells off y.cells Z (by omega)
        have hd2 : V.denL I ρ η (setCells cs off vs) (y.cells.zipIdx.foldl (fun cs (x : Value × Nat) => cs.setIfInBounds (off + x.2) x.1) Z).toList := by
          rw [hfc]; simpa using hset
        obtain ⟨Z', hZ', hdZ⟩ := fillV_ok hp ps _ cs' _ ys h hd2 hys
        refine ⟨Z', ?_, hdZ⟩
        simp only [Instr.fill, hp i off s hpl]
        have e1 : (y.cells.size ≠ s || off + y.cells.size > Z.size) = false := by
          simp; omega
        simp only [e1, Bool.false_eq_true, if_false]
        exact hZ'
      · simp at h
    · simp at h

theorem mapM_places : ∀ (fs : List Field), (fs.all fun f => (sizeT P f.type).isSome) = true →
    ∃ pl, fs.mapM (fun f => (P.info? f.type).map fun i => (f.offset, i.size)) = some pl ∧ ∀ (k : Nat) (f : Field) (s : Nat), fs[k]? = some f → sizeT P f.type = some s → pl[k]? = some (f.offset, s)
  | [], _ => ⟨[], rfl, fun k f s h => by simp at h⟩
  | f :: fs, h => by
    simp only [List.all_cons, Bool.and_eq_true] at h
    obtain ⟨pl, h1, h2⟩ := mapM_places fs h.2
    obtain ⟨s, hs⟩ := Option.isSome_iff_exists.1 h.1
    have hs' := hs
    unfold sizeT at hs'
    rw [Option.map_eq_some_iff] at hs'
    obtain ⟨i, hi, hsi⟩ := hs'
    refine ⟨(f.offset, s) :: pl, by simp [List.mapM_cons, hi, h1, hsi], fun k g s' hk hg => ?_⟩
    cases k with
    | zero => simp at hk; subst hk; rw [hs] at hg; simp only [Option.some.injEq] at hg; subst hg; rfl
    | succ k => simp at hk; simpa using h2 k g s' hk hg

theorem buildR_ok {t : TypeId} {ps : List (Nat × V)} {xs : Array (Nat × Value)} (hx : partsDen I ρ η ps xs.toList) {r : AR} (h : buildR P t ps = .ok r) (w : World) :
    ∃ z, (Instr.build t xs).run P w = .ok z w ∧ V.den I ρ η r.v z ∧ r.eff = [] := by
  unfold buildR at h
  split at h
  · rename_i z fs hz hu
    split at h
    · simp at h
    · rename_i hall
      split at h
      · rename_i cs hf
        simp only [Res.ok.injEq] at h; subst h
        obtain ⟨i, zv, hi, hzv, hd, _, _, _⟩ := zeroCellsV_ok (I := I) (ρ := ρ) (η := η) hz
        obtain ⟨pl, h1, h2⟩ := mapM_places (P := P) fs.toList (not_not_true hall)
        obtain ⟨Z', hZ, hdZ⟩ := fillV_ok (place := (pl.toArray[·]?)) (fun k off s hk => by
          unfold placeOf at hk
          rw [hu] at hk
          simp only at hk
          split at hk
          · rename_i f hf
            rw [Option.map_eq_some_iff] at hk
            obtain ⟨s', hs', he⟩ := hk
            simp only [Prod.mk.injEq] at he
            obtain ⟨rfl, rfl⟩ := he
            have := h2 k f s' (by simpa using hf) hs'
            simpa using this
          · simp at hk) ps z cs zv.cells xs.toList hf hd hx
        refine ⟨.agg Z', run_build w t xs Z' ?_, ?_, rfl⟩
        · unfold Program.built
          simp only [hi, hu, hzv, h1]
          exact hZ
        · simp only [V.den]; exact ⟨_, rfl, hdZ⟩
      · simp at h
  · rename_i z n e hz hu
    split at h
    · simp at h
    · rename_i hall
      split at h
      · rename_i cs hf
        simp only [Res.ok.injEq] at h; subst h
        obtain ⟨i, zv, hi, hzv, hd, _, _, _⟩ := zeroCellsV_ok (I := I) (ρ := ρ) (η := η) hz
        have hse : (sizeT P e).isSome = true := not_not_true hall
        obtain ⟨s, hs⟩ := Option.isSome_iff_exists.1 hse
        have hs' := hs
        unfold sizeT at hs'
        rw [Option.map_eq_some_iff] at hs'
        obtain ⟨ie, hie, hsi⟩ := hs'
        obtain ⟨Z', hZ, hdZ⟩ := fillV_ok (place := fun i => some (i * ie.size, ie.size)) (fun k off s' hk => by
          unfold placeOf at hk
          rw [hu] at hk
          simp only [hs, Option.map_some, Option.some.injEq, Prod.mk.injEq] at hk
          rw [hsi, hk.1, hk.2]) ps z cs zv.cells xs.toList hf hd hx
        refine ⟨.agg Z', run_build w t xs Z' ?_, ?_, rfl⟩
        · unfold Program.built
          simp only [hi, hu, hzv, hie]
          exact hZ
        · simp only [V.den]; exact ⟨_, rfl, hdZ⟩
      · simp at h
  · simp at h

theorem repeatL_snoc (z : List V) : ∀ n : Nat, repeatL z (n + 1) = repeatL z n ++ z
  | 0 => by simp [repeatL]
  | n + 1 => by
    have ih := repeatL_snoc z n
    show z ++ repeatL z (n + 1) = (z ++ repeatL z n) ++ z
    rw [ih, List.append_assoc]

theorem range_map_mod (zc : Array Value) (hpos : 0 < zc.size) : ∀ n : Nat, ((List.range (n * zc.size)).map fun k => zc[k % zc.size]!) = (List.replicate n zc.toList).flatten
  | 0 => by simp
  | n + 1 => by
    have ih := range_map_mod zc hpos n
    rw [Nat.succ_mul, List.range_add, List.map_append, ih, List.replicate_succ', List.flatten_append]
    congr 1
    simp only [List.map_map, List.flatten_cons, List.flatten_nil, List.append_nil]
    apply List.ext_getElem?
    intro k
    simp only [List.getElem?_map]
    by_cases hk : k < zc.size
    · have : (n * zc.size + k) % zc.size = k := by rw [Nat.add_comm, Nat.add_mul_mod_self_right, Nat.mod_eq_of_lt hk]
      simp [hk, this]
    · simp [hk]

theorem repeatL_den {z : List V} {zs : List Value} (h : V.denL I ρ η z zs) : ∀ n : Nat, V.denL I ρ η (repeatL z n) (List.replicate n zs).flatten
  | 0 => by simp [repeatL, V.denL]
  | n + 1 => by
    simp only [repeatL, List.replicate_succ, List.flatten_cons]
    exact V.denL_append h (repeatL_den h n)

theorem made_den {z : List V} {zv : Value} (h : V.denL I ρ η z zv.cells.toList) (hpos : 0 < zv.cells.size) (n : Nat) :
    V.denL I ρ η (repeatL z n) ((Array.range (n * zv.cells.size)).map (zv.cells[· % zv.cells.size]!)).toList := by
  rw [Array.toList_map, Array.toList_range, range_map_mod _ hpos]
  exact repeatL_den h n

theorem repeatL_length (z : List V) : ∀ n : Nat, (repeatL z n).length = n * z.length
  | 0 => by simp [repeatL]
  | n + 1 => by simp [repeatL, repeatL_length z n, Nat.succ_mul]; omega

theorem fillV_length {t : TypeId} : ∀ (ps : List (Nat × V)) (cs cs' : List V), fillV P t cs ps = some cs' → cs'.length = cs.length
  | [], cs, cs', h => by simp only [fillV, Option.some.injEq] at h; subst h; rfl
  | (i, v) :: ps, cs, cs', h => by
    simp only [fillV] at h
    split at h
    · split at h
      · rw [fillV_length ps _ _ h, setCells_length]
      · simp at h
    · simp at h

/-- a slice over a new block, at its head -/
theorem den_slice_new {fr w' n C b sz wd : Nat} {e : E} {cap : Option E} (hi : η fr = some ⟨b, sz, wd, 0⟩) (he : (e.den I ρ).i = (n : Int)) (hn : n ≤ C) (hsz : C * w' ≤ sz) (hcap : ∀ c, cap = some c → (c.den I ρ).i = (C : Int)) :
    V.den I ρ η (.slice fr w' (.lit 0) e cap) (.slice (some ⟨b, 0, none⟩) n C) := by
  simp only [V.den]
  refine ⟨_, hi, by simp [E.den], by omega, .inr ⟨C, 0, fun _ => by simp [E.den], by omega, by simpa [E.den] using hsz, hcap, ?_⟩⟩
  rw [he]; simp

theorem buildSliceR_ok (m : Mem P I ρ η H S w0 w) {fr : Nat} (hfr : look H fr = none) {t : TypeId} {len : Nat} {ps : List (Nat × V)} {xs : Array (Nat × Value)} (hx : partsDen I ρ η ps xs.toList)
    {r : AR} (h : buildSliceR P fr t len ps = .ok r) :
    ∃ z w' η', (Instr.buildSlice t len xs).run P w = .ok z w' ∧ η.le η' ∧ V.den I ρ η' r.v z ∧ Mem P I ρ η' (applyEff H r.eff) S w0 w' := by
  unfold buildSliceR at h
  split at h
  · rename_i e hu
    split at h
    · rename_i z s hz hs
      split at h
      · simp at h
      · rename_i hc
        simp only [not_or, Nat.not_lt] at hc
        obtain ⟨hzs, hs0, hsmall⟩ := hc
        have hzs' : z.length = s := by simpa using hzs
        split at h
        · rename_i hn0
          subst hn0
          split at h
          · simp only [Res.ok.injEq] at h; subst h
            simp only [partsDen] at hx
            refine ⟨.slice (some ⟨w.heap.size, 0, none⟩) 0 0, w.alloc (.cells #[] e), η.ext fr ⟨w.heap.size, 0, 0, 0⟩, ?_, Env.le_ext _ (m.free fr hfr), ?_, ?_⟩
            · simp [Instr.buildSlice, run_underlying hu, sizeT_run hs, hx, Instr.fill, newRow, Array.range_zero']
            · exact den_slice_new (Env.ext_self ..) (by simp [E.den]) (Nat.le_refl _) (by simp) (fun c hc => by simp at hc; subst hc; simp [E.den])
            · simp only [applyEff]
              exact m.newCells hfr (c := #[]) (ty := e) (w' := w.alloc (.cells #[] e)) (by simp [V.denL]) (by simp) rfl rfl rfl rfl 0
          · simp at h
        · rename_i hn0
          split at h
          · rename_i cs hf
            simp only [Res.ok.injEq] at h; subst h
            obtain ⟨i, zv, hi, hzv, hd, _, hl, hrun⟩ := zeroCellsV_ok (I := I) (ρ := ρ) (η := η) hz
            have hsi : i.size = s := by unfold sizeT at hs; rw [hi] at hs; simpa using hs
            have hzc : zv.cells.size = s := by omega
            have hlen := fillV_length _ _ _ hf
            rw [repeatL_length, hzs'] at hlen
            have hpos : 0 < len * s := Nat.mul_pos (by omega) (by omega)
            obtain ⟨Z', hZ, hdZ⟩ := fillV_ok (place := fun k => some (k * i.size, i.size)) (fun k off s' hk => by
              unfold placeOf at hk
              rw [hu] at hk
              simp only [hs, Option.map_some, Option.some.injEq, Prod.mk.injEq] at hk
              rw [hsi, hk.1, hk.2]) ps _ cs _ xs.toList hf (made_den hd (by omega) len) hx
            have hZl := V.denL_length hdZ
            simp only [Array.length_toList] at hZl
            rw [hlen] at hZl
            have hrun2 := run_buildSlice (P := P) w t e len xs Z' i zv hu hi hzv (by rw [hsi]; omega) (by rw [hsi]; omega) (by rw [hzc] at hZ; rw [hsi, hzc]; rw [hsi] at hZ; exact hZ)
            refine ⟨_, _, η.ext fr ⟨w.heap.size, Z'.size, 0, 0⟩, hrun2, Env.le_ext _ (m.free fr hfr), ?_, ?_⟩
            · exact den_slice_new (Env.ext_self ..) (by simp [E.den]) (Nat.le_refl _) (by omega) (fun c hc => by simp at hc; subst hc; simp [E.den])
            · simp only [applyEff]
              exact m.newCells hfr (c := Z') (ty := e) (w' := w.alloc (.cells Z' e)) (by rw [hlen, ← hZl, List.take_of_length_le (by simp)]; exact hdZ) (by omega) rfl rfl rfl rfl 0
          · simp at h
    · simp at h
  · simp at h

/-- a row of zeros: the kinds and the numbers -/
theorem zeroRow_ok : ∀ {z : List V} {zs : List Value} {r : List E} {ks : List CK}, V.denL I ρ η z zs →
    z.mapM (fun v => match v with | .int _ e => some e | .bool e => some (b2i e) | _ => none) = some r →
    z.mapM (fun v => match v with | .int k _ => some (CK.int k) | .bool _ => some CK.bool | _ => none) = some ks →
    r.length = ks.length ∧ ks.length = z.length ∧ zs = rowVals ks ((rowOf r).den I ρ).r
  | [], zs, r, ks, hd, hr, hk => by
    simp at hr hk; subst hr; subst hk
    simp only [V.denL] at hd; subst hd
    exact ⟨rfl, rfl, rfl⟩
  | v :: z, zs, r, ks, hd, hr, hk => by
    rw [List.mapM_cons] at hr hk
    simp only [bind, Option.bind_eq_some_iff, pure, Option.some.injEq] at hr hk
    obtain ⟨e, he, r', hr', rfl⟩ := hr
    obtain ⟨k, hk1, ks', hk', rfl⟩ := hk
    simp only [V.denL] at hd
    obtain ⟨y, ys, rfl, hy, hys⟩ := hd
    obtain ⟨h1, h2, h3⟩ := zeroRow_ok hys hr' hk'
    refine ⟨by simp [h1], by simp [h2], ?_⟩
    have hyv : y = k.val (e.den I ρ).i := by
      cases v <;> simp at he hk1
      · subst he; subst hk1; simp only [V.den] at hy; exact hy
      · subst he; subst hk1
        simp only [V.den] at hy
        subst hy
        simp only [CK.val, b2i_ok]
        split <;> simp_all
    rw [hyv, h3]
    simp [rowOf, E.den, BiO.den, rowVals]

theorem flat_replicate (ks : List CK) (r : List Int) : ∀ n : Nat, (List.replicate n r).flatMap (rowVals ks) = (List.replicate n (rowVals ks r)).flatten
  | 0 => by simp
  | n + 1 => by simp only [List.replicate_succ, List.flatMap_cons, List.flatten_cons, flat_replicate ks r n]

theorem makeSliceR_ok (hpc : Holds I ρ pc) (m : Mem P I ρ η H S w0 w) {fr : Nat} (hfr : look H fr = none) {t : TypeId} {l c : V} {lv cv : Value} (hl : V.den I ρ η l lv) (hc : V.den I ρ η c cv)
    {r : AR} (h : makeSliceR P pc fr t l c = .ok r) (hn : Holds I ρ r.needs) :
    ∃ z w' η', (Instr.makeSlice t lv cv).run P w = .ok z w' ∧ η.le η' ∧ V.den I ρ η' r.v z ∧ Mem P I ρ η' (applyEff H r.eff) S w0 w' := by
  unfold makeSliceR at h
  split at h
  · rename_i e kl l kc c hu
    simp only [V.den] at hl hc
    subst hl; subst hc
    split at h
    · rename_i i z hi hz
      obtain ⟨i', zv, hi', hzv, hd, _, hzl, hrun⟩ := zeroCellsV_ok (I := I) (ρ := ρ) (η := η) hz
      rw [hi] at hi'; simp only [Option.some.injEq] at hi'; subst hi'
      split at h
      · simp at h
      · rename_i hcond
        simp only [not_or] at hcond
        have hsz : zv.cells.size = i.size := by
          have := hcond.1
          simp only [ne_eq, Classical.not_not] at this
          omega
        have hpos : 0 < i.size := by omega
        split at h
        · rename_i l c
          split at h
          · rename_i hb
            simp only [Res.ok.injEq] at h; subst h
            have hr := run_make (P := P) w t e i zv hu hi hzv kl kc l c hb.1 hb.2.1 hb.2.2.2 (by omega)
            refine ⟨_, _, η.ext fr ⟨w.heap.size, (madeCells zv.cells (c.toNat * i.size)).size, 0, 0⟩, hr, Env.le_ext _ (m.free fr hfr), ?_, ?_⟩
            · refine den_slice_new (Env.ext_self ..) (by simp [E.den]; omega) (by omega) (by rw [size_madeCells]; exact Nat.le_refl _) (fun c' hc => by simp at hc; subst hc; simp [E.den]; omega)
            · simp only [applyEff]
              have hmd := made_den hd (by omega) c.toNat
              change V.denL I ρ η (repeatL z c.toNat) (madeCells zv.cells (c.toNat * zv.cells.size)).toList at hmd
              rw [show c.toNat * zv.cells.size = c.toNat * i.size from by rw [hsz]] at hmd
              have hml : (madeCells zv.cells (c.toNat * i.size)).size = c.toNat * i.size := size_madeCells _ _
              have hrl := repeatL_length z c.toNat
              rw [hzl, hsz] at hrl
              exact m.newCells hfr (c := madeCells zv.cells (c.toNat * i.size)) (ty := e) (w' := w.alloc (.cells (madeCells zv.cells (c.toNat * i.size)) e))
                (by rw [List.take_of_length_le (by rw [Array.length_toList, hml, hrl]; exact Nat.le_refl _)]; exact hmd) (by omega) rfl rfl rfl rfl 0
          · simp at h
        · split at h
          · rename_i rr ks hrr hks
            obtain ⟨rv, he, _, hneed⟩ := okR_ok hpc h
            have n1 := holds_le (hneed hn _ (List.mem_cons_self ..))
            have n0 := holds_le (hneed hn _ (List.mem_cons_of_mem _ (List.mem_cons_self ..)))
            have n2 := holds_le (hneed hn _ (List.mem_cons_of_mem _ (List.mem_cons_of_mem _ (List.mem_cons_self ..))))
            have n3 : ((E.bl (decide (i.bytes ≤ 65536))).den I ρ).b = true := hneed hn _ (List.mem_cons_of_mem _ (List.mem_cons_of_mem _ (List.mem_cons_of_mem _ (List.mem_cons_self ..))))
            have n3' : i.bytes ≤ 65536 := of_decide_eq_true n3
            simp only [lit_i] at n1 n2
            obtain ⟨h1, h2, h3⟩ := zeroRow_ok hd hrr hks
            have hksl : ks.length = i.size := by omega
            obtain ⟨n, hnn⟩ : ∃ n : Nat, (c.den I ρ).i = (n : Int) := ⟨(c.den I ρ).i.toNat, by omega⟩
            obtain ⟨q, hqq⟩ : ∃ q : Nat, (l.den I ρ).i = (q : Int) := ⟨(l.den I ρ).i.toNat, by omega⟩
            have hb : (i.bytes : Int) * (c.den I ρ).i ≤ 281474976710656 := by
              have h4 : i.bytes * n ≤ 65536 * 1048576 := Nat.mul_le_mul n3' (by omega)
              rw [hnn, ← Int.natCast_mul]; omega
            have hr := run_make (P := P) w t e i zv hu hi hzv kl kc _ _ n1 n0 hb (by omega)
            rw [hnn, hqq] at hr ⊢
            simp only [Int.toNat_natCast] at hr
            have hml : (madeCells zv.cells (n * i.size)).size = n * i.size := size_madeCells _ _
            have hrow : ((rowOf rr).den I ρ).r.length = ks.length := by rw [rowOf_r]; simp [h1]
            have hflat : (madeCells zv.cells (n * i.size)).toList = (List.replicate n ((rowOf rr).den I ρ).r).flatMap (rowVals ks) := by
              rw [flat_replicate, ← h3]
              show ((Array.range (n * i.size)).map (zv.cells[· % zv.cells.size]!)).toList = _
              rw [Array.toList_map, Array.toList_range, ← hsz, range_map_mod _ (by omega)]
            by_cases hn0 : n = 0
            · -- no element: the block is there, and is empty
              refine ⟨_, _, η.ext fr ⟨w.heap.size, 0, ks.length, 0⟩, hr, Env.le_ext _ (m.free fr hfr), ?_, ?_⟩
              · rw [rv]
                exact den_slice_new (Env.ext_self ..) hqq (by omega) (by simp [hn0]) (fun c' hc => by simp at hc; subst hc; exact hnn)
              · rw [he]
                simp only [applyEff]
                have hm2 := m.empty hfr (ks := ks) (A := .bi .rep c (rowOf rr)) (i := ⟨w.heap.size, 0, ks.length, 0⟩) rfl ⟨by omega, rfl, by intro x hx; simp [E.den, BiO.den, hnn, hn0] at hx, fun _ => rfl, .inl ⟨rfl, by simp [E.den, BiO.den, hnn, hn0]⟩⟩
                exact hm2.grow rfl rfl rfl rfl
            · refine ⟨_, _, η.ext fr ⟨w.heap.size, n * i.size, ks.length, 0⟩, hr, Env.le_ext _ (m.free fr hfr), ?_, ?_⟩
              · rw [rv]
                exact den_slice_new (Env.ext_self ..) hqq (by omega) (Nat.le_refl _) (fun c' hc => by simp at hc; subst hc; exact hnn)
              · rw [he]
                simp only [applyEff]
                refine m.fresh hfr rfl rfl rfl rfl rfl rfl (by intro e; cases e) ?_
                refine den_rows_own rfl ⟨by omega, rfl, ?_, .inr ⟨Nat.mul_pos (by omega) hpos, _, e, (0, 0), rfl, fun _ => rfl, ?_, hml, ?_⟩⟩
                · intro x hx
                  simp only [E.den, BiO.den, hnn, Int.toNat_natCast] at hx
                  rw [List.eq_of_mem_replicate hx]; exact hrow
                · simp only [E.den, BiO.den, hnn, Int.toNat_natCast, List.length_replicate, hml, hksl]; exact Nat.le_refl _
                · simp only [E.den, BiO.den, hnn, Int.toNat_natCast, List.length_replicate]
                  rw [List.take_of_length_le (by simp [hml, hksl]), hflat]
          · simp at h
    · simp at h
  · simp at h

/-- a bound of a slice expression against its abstract one -/
def optDen (I : Itp) (ρ : List U) (η : Env) : Option V → Option Value → Prop
  | none, none => True
  | some v, some x => V.den I ρ η v x
  | _, _ => False

theorem bound_run {o : Option V} {ov : Option Value} (ho : optDen I ρ η o ov) {d e : E} (h : boundE o d = some e) : (ov = none ∧ e = d) ∨ (∃ k, ov = some (.int k (e.den I ρ).i)) := by
  cases o with
  | none =>
    cases ov with
    | none => simp only [boundE, Option.some.injEq] at h; exact .inl ⟨rfl, h.symm⟩
    | some x => exact ho.elim
  | some v =>
    cases ov with
    | none => exact ho.elim
    | some x =>
      cases v <;> simp [boundE] at h
      subst h
      simp only [optDen, V.den] at ho
      exact .inr ⟨_, by rw [ho]⟩

theorem sliceBounds_run {lo hi : Option V} {lov hiv : Option Value} (hlo : optDen I ρ η lo lov) (hhi : optDen I ρ η hi hiv) {dl dh l u : E} (h1 : boundE lo dl = some l) (h2 : boundE hi dh = some u)
    (hdl : (dl.den I ρ).i = 0) {n C : Nat} (hdh : (dh.den I ρ).i = (n : Int)) (n1 : 0 ≤ (l.den I ρ).i) (n2 : (l.den I ρ).i ≤ (u.den I ρ).i) (n3 : (u.den I ρ).i ≤ (C : Int)) (b : Bool) :
    (Instr.sliceBounds b n C lov hiv none).run P w = .ok ((l.den I ρ).i.toNat, (u.den I ρ).i.toNat, C) w := by
  have hu : (match hiv with | some v => Instr.sliceBound v C (if b then .sliceAcap else .sliceAlen) | none => (pure n : Sem Nat)).run P w = .ok (u.den I ρ).i.toNat w := by
    rcases bound_run hhi h2 with ⟨rfl, rfl⟩ | ⟨k, rfl⟩
    · simp [hdh]
    · have h0 : 0 ≤ (u.den I ρ).i := by omega
      simp [Instr.sliceBound, asIntOf, h0, n3]
  have hl : (match lov with | some v => Instr.sliceBound v (u.den I ρ).i.toNat .sliceB | none => (pure 0 : Sem Nat)).run P w = .ok (l.den I ρ).i.toNat w := by
    rcases bound_run hlo h1 with ⟨rfl, rfl⟩ | ⟨k, rfl⟩
    · simp [hdl]
    · have h5 : (l.den I ρ).i ≤ (((u.den I ρ).i.toNat : Nat) : Int) := by omega
      simp only [Instr.sliceBound, Sem.run_bind, asIntOf, Sem.run_pure, Result.andThen_ok, n1, h5, and_self, if_true]
  cases hiv with
  | none =>
    simp only [Sem.run_pure] at hu
    simp only [Result.ok.injEq, and_true] at hu
    cases lov with
    | none =>
      simp only [Sem.run_pure, Result.ok.injEq, and_true] at hl
      simp [Instr.sliceBounds, hu, ← hl]
    | some lv =>
      simp only at hl
      rw [← hu] at hl ⊢
      simp [Instr.sliceBounds, hl]
  | some hv =>
    simp only at hu
    cases lov with
    | none =>
      simp only [Sem.run_pure, Result.ok.injEq, and_true] at hl
      simp [Instr.sliceBounds, hu, ← hl]
    | some lv =>
      simp only at hl
      simp [Instr.sliceBounds, hu, hl]

theorem sliceR_ok (hpc : Holds I ρ pc) (m : Mem P I ρ η H S w0 w) {t : TypeId} {x : V} {xv : Value} (hx : V.den I ρ η x xv) {lo hi mx : Option V} {lov hiv mxv : Option Value}
    (hlo : optDen I ρ η lo lov) (hhi : optDen I ρ η hi hiv) (hmx : optDen I ρ η mx mxv) {r : AR} (h : sliceR P pc H t x lo hi mx = .ok r) (hn : Holds I ρ r.needs) :
    ∃ z, (Instr.sliceAt t xv lov hiv mxv).run P w = .ok z w ∧ V.den I ρ η r.v z ∧ r.eff = [] := by
  unfold sliceR at h
  split at h
  · simp at h
  · have hmx' : mxv = none := by cases mxv with | none => rfl | some _ => exact hmx.elim
    subst hmx'
    split at h
    · rename_i e hh ww off len cap hu
      simp only [V.den] at hx
      obtain ⟨i, hi', ho0, hl0, hx⟩ := hx
      split at h
      · rename_i s l u hs hbl hbu
        split at h
        · simp at h
        · rename_i hsw
          have hsw' : s = ww := by simpa using hsw
          subst hsw'
          obtain ⟨rv, he, _, hneed⟩ := okR_ok hpc h
          have n1 := holds_le (hneed hn _ (List.mem_cons_self ..))
          have n2 := holds_le (hneed hn _ (List.mem_cons_of_mem _ (List.mem_cons_self ..)))
          have n3 := holds_le (hneed hn _ (List.mem_cons_of_mem _ (List.mem_cons_of_mem _ (List.mem_cons_self ..))))
          simp only [lit_i] at n1
          rcases hx with ⟨rfl, hsz, hoz, hlz, hcz⟩ | ⟨C, f, hf, hC, hsz, hcap, rfl⟩
          · have hu0 : (u.den I ρ).i ≤ 0 := by
              cases cap with
              | none => simp only at n3; omega
              | some c => have := hcz c rfl; simp only at n3; omega
            have hb := sliceBounds_run (P := P) (w := w) hlo hhi hbl hbu (lit_i I ρ 0) (n := 0) (C := 0) (by rw [hlz]; rfl) n1 n2 (by omega) true
            have hl0' : (l.den I ρ).i = 0 := by omega
            have hu0' : (u.den I ρ).i = 0 := by omega
            refine ⟨.slice none 0 0, ?_, ?_, he⟩
            · simp [Instr.sliceAt, run_underlying hu, Instr.slice, hb, hl0', hu0', sizeT_run hs]
            · rw [rv]
              simp only [V.den]
              refine ⟨i, hi', by rw [mkAdd_i]; omega, by rw [mkSub_i]; omega, .inl ⟨trivial, hsz, by rw [mkAdd_i]; omega, by rw [mkSub_i]; omega, ?_⟩⟩
              intro c hc
              rw [Option.map_eq_some_iff] at hc
              obtain ⟨c', hc', rfl⟩ := hc
              rw [mkSub_i, hcz c' hc']; omega
          · have huC : (u.den I ρ).i ≤ (C : Int) := by
              cases cap with
              | none => simp only at n3; omega
              | some c => have := hcap c rfl; simp only at n3; omega
            have hb := sliceBounds_run (P := P) (w := w) hlo hhi hbl hbu (lit_i I ρ 0) (n := (len.den I ρ).i.toNat) (C := C) (by omega) n1 n2 huC true
            refine ⟨.slice (some (if C = (l.den I ρ).i.toNat then ⟨i.blk, f, none⟩ else ⟨i.blk, f + (l.den I ρ).i.toNat * s, none⟩)) ((u.den I ρ).i.toNat - (l.den I ρ).i.toNat) (C - (l.den I ρ).i.toNat), ?_, ?_, he⟩
            · simp [Instr.sliceAt, run_underlying hu, Instr.slice, hb, sizeT_run hs, add_at]
              split <;> rfl
            · rw [rv]
              simp only [V.den]
              refine ⟨i, hi', by rw [mkAdd_i]; omega, by rw [mkSub_i]; omega, .inr ⟨C - (l.den I ρ).i.toNat, if C = (l.den I ρ).i.toNat then f else f + (l.den I ρ).i.toNat * s, ?_, ?_, ?_, ?_, ?_⟩⟩
              · intro hpos
                rw [if_neg (by omega), hf (by omega), mkAdd_i, toNat_add_mul' ho0 n1, Nat.add_assoc]
              · rw [mkSub_i]; omega
              · rw [mkAdd_i]
                have : ((off.den I ρ).i + (l.den I ρ).i).toNat + (C - (l.den I ρ).i.toNat) = (off.den I ρ).i.toNat + C := by omega
                rw [this]; exact hsz
              · intro c hc
                rw [Option.map_eq_some_iff] at hc
                obtain ⟨c', hc', rfl⟩ := hc
                rw [mkSub_i, hcap c' hc']; omega
              · rw [mkSub_i, show ((u.den I ρ).i - (l.den I ρ).i).toNat = (u.den I ρ).i.toNat - (l.den I ρ).i.toNat from by omega]
                split <;> rfl
      · simp at h
    · rename_i e hu
      simp only [V.den] at hx
      subst hx
      split at h
      · rename_i s l u hs hbl hbu
        obtain ⟨rv, he, _, hneed⟩ := okR_ok hpc h
        have n1 := holds_eq (hneed hn _ (List.mem_cons_self ..))
        have n2 := holds_eq (hneed hn _ (List.mem_cons_of_mem _ (List.mem_cons_self ..)))
        simp only [lit_i] at n1 n2
        have hb := sliceBounds_run (P := P) (w := w) hlo hhi hbl hbu (lit_i I ρ 0) (n := 0) (C := 0) (lit_i I ρ 0) (by omega) (by omega) (by omega) true
        refine ⟨.slice none 0 0, ?_, by rw [rv]; simp [V.den], he⟩
        simp [Instr.sliceAt, run_underlying hu, Instr.slice, hb, n1, n2, sizeT_run hs]
      · simp at h
    · rename_i n e hh rr cc hu
      simp only [V.den] at hx
      obtain ⟨i, hi', hr0, hc0, rfl⟩ := hx
      split at h
      · rename_i s l u c0 ro cs hs hbl hbu hcl hl
        split at h
        · simp at h
        · rename_i hcond
          simp only [not_or, Nat.not_lt] at hcond
          obtain ⟨hs0, hmod, hcover⟩ := hcond
          obtain ⟨rv, he, _, hneed⟩ := okR_ok hpc h
          have n1 := holds_le (hneed hn _ (List.mem_cons_self ..))
          have n2 := holds_le (hneed hn _ (List.mem_cons_of_mem _ (List.mem_cons_self ..)))
          have n3 := holds_le (hneed hn _ (List.mem_cons_of_mem _ (List.mem_cons_of_mem _ (List.mem_cons_self ..))))
          simp only [lit_i] at n1 n3
          have hce := natLit_ok hcl
          subst hce
          obtain ⟨c', ty, fz, hb', _, hsz, hszi, _⟩ := m.cells_read hl hi'
          have hbs := m.cells_bs hl hi'
          have hb := sliceBounds_run (P := P) (w := w) hlo hhi hbl hbu (lit_i I ρ 0) (n := n) (C := n) (lit_i I ρ _) n1 n2 n3 false
          have hdiv : c0 = (c0 / s) * s := by
            have := Nat.div_add_mod c0 s
            simp only [ne_eq, Classical.not_not] at hmod
            rw [hmod, Nat.mul_comm] at this; omega
          obtain ⟨q, hq⟩ : ∃ q, q = c0 / s := ⟨_, rfl⟩
          rw [← hq] at hdiv rv
          refine ⟨.slice (some (if n = (l.den I ρ).i.toNat then ⟨i.blk, c0, none⟩ else ⟨i.blk, c0 + (l.den I ρ).i.toNat * s, none⟩)) ((u.den I ρ).i.toNat - (l.den I ρ).i.toNat) (n - (l.den I ρ).i.toNat), ?_, ?_, he⟩
          · simp [Instr.sliceAt, run_underlying hu, Instr.sureAddr, hb, sizeT_run hs, add_at, E.den, hbs]
          · rw [rv]
            simp only [V.den]
            refine ⟨i, hi', by rw [mkAdd_i, lit_i]; omega, by rw [mkSub_i]; omega, .inr ⟨n - (l.den I ρ).i.toNat, if n = (l.den I ρ).i.toNat then c0 else c0 + (l.den I ρ).i.toNat * s, ?_, ?_, ?_, ?_, ?_⟩⟩
            · intro hpos
              rw [if_neg (by omega), mkAdd_i, lit_i, toNat_add_mul' (by omega) n1, Int.toNat_natCast, ← hdiv, hbs, Nat.zero_add]
            · rw [mkSub_i]; omega
            · rw [mkAdd_i, lit_i]
              have : ((q : Int) + (l.den I ρ).i).toNat + (n - (l.den I ρ).i.toNat) = q + n := by omega
              rw [this, Nat.add_mul, ← hdiv]
              omega
            · intro c hc
              simp only [Option.some.injEq] at hc
              subst hc
              rw [mkSub_i, lit_i]; omega
            · rw [mkSub_i, show ((u.den I ρ).i - (l.den I ρ).i).toNat = (u.den I ρ).i.toNat - (l.den I ρ).i.toNat from by omega]
              split <;> rfl
      · simp at h
    · simp at h

end
end Go.Sx

/- The symbolic executor, part L: append. -/
namespace Go.Sx
open Go

/-- What a slice shows: its length and its cells. -/
structure Shows (P : Program) (w : World) (xv : Value) (m ws : Nat) (news : List Value) : Prop where
  len : ∀ W : World, (Builtin.lenOf xv).run P W = .ok m W
  size : news.length = m * ws
  cells : ∀ W : World, W.heap = w.heap → (Builtin.firstCells ws m xv).run P W = .ok news.toArray W
  one : ∀ u ∈ news, u.oneCell' = true

section
variable {P : Program} {I : Itp} {ρ : List U} {pc : List E} {η : Env} {H : List O} {S : Nat → Prop} {w0 w : World}

theorem cell_heap {W w : World} (h : W.heap = w.heap) (a : Addr) : W.cell? a = w.cell? a := by simp [World.cell?, h]

theorem shows_nil (ws : Nat) : Shows P w (.slice none 0 0) 0 ws [] :=
  ⟨fun W => by simp [Builtin.lenOf], by simp, fun W _ => by simp [Builtin.firstCells], fun u hu => by simp at hu⟩

theorem shows_some {b f n C ws : Nat} {news : List Value} (hl : news.length = n * ws) (ho : ∀ u ∈ news, u.oneCell' = true) (hc : ∀ j v, news[j]? = some v → w.cell? ⟨b, f + j, none⟩ = some v) :
    Shows P w (.slice (some ⟨b, f, none⟩) n C) n ws news := by
  refine ⟨fun W => by simp [Builtin.lenOf], hl, fun W hW => ?_, ho⟩
  refine run_firstCells_some (P := P) W ws n ⟨b, f, none⟩ n C news hl (fun j v hv => ?_)
  rw [cell_heap hW, add_at]
  exact hc j v hv

theorem shownCells_ok (m : Mem P I ρ η H S w0 w) {h ws : Nat} {off len : E} {cap : Option E} {xv : Value} (hx : V.den I ρ η (.slice h ws off len cap) xv) {cs : List V} (hs : shownCells H (.slice h ws off len cap) = some cs)
    {n : Nat} (hn : natLit len = some n) : ∃ news, V.denL I ρ η cs news ∧ Shows P w xv n ws news ∧ (∀ i c ty fz, η h = some i → w.heap[i.blk]? = some (.cells c ty fz) → off = .lit 0 → c.toList.take news.length = news) := by
  have hle := natLit_ok hn
  subst hle
  simp only [shownCells, hn] at hs
  split at hs
  · rename_i ro c0 o n' hl hoff hn'
    simp only [Option.some.injEq] at hn'
    subst hn'
    have hoe := natLit_ok hoff
    subst hoe
    split at hs
    · rename_i hfit
      obtain ⟨hfit, hatom⟩ := hfit
      simp only [Option.some.injEq] at hs; subst hs
      simp only [V.den, lit_i, Int.toNat_natCast] at hx
      obtain ⟨i, hi, _, _, hx⟩ := hx
      obtain ⟨c', ty, fz, hb, _, hsz, hszi, hd⟩ := m.cells_read hl hi
      have hbs := m.cells_bs hl hi
      have hd2 := V.denL_take (n * ws) (V.denL_drop (o * ws) hd)
      have hlen := V.denL_length hd2
      have hlen' : (((c'.toList.take c0.length).drop (o * ws)).take (n * ws)).length = n * ws := by
        rw [hlen]; simp; rw [Nat.add_mul] at hfit; omega
      have hpre : ∀ i' c ty fz, η h = some i' → w.heap[i'.blk]? = some (.cells c ty fz) → E.lit (o : Int) = .lit 0 → c.toList.take (((c'.toList.take c0.length).drop (o * ws)).take (n * ws)).length = ((c'.toList.take c0.length).drop (o * ws)).take (n * ws) := by
        intro i' c ty' fz' hi' hb' ho'
        rw [hi] at hi'; simp only [Option.some.injEq] at hi'; subst hi'
        rw [hb] at hb'; simp only [Option.some.injEq, Obj.cells.injEq] at hb'
        obtain ⟨rfl, _, _⟩ := hb'
        simp only [E.lit.injEq] at ho'
        have ho0 : o = 0 := by omega
        subst ho0
        rw [hlen', Nat.zero_mul, List.drop_zero, List.take_take, Nat.min_eq_left (by simpa using hfit)]
      refine ⟨_, hd2, ?_, hpre⟩
      have hone := atoms_one hd2 hatom
      rcases hx with ⟨rfl, _, _, hz, _⟩ | ⟨C, f, hf, hC, hsz', _, rfl⟩
      · have hn0 : n = 0 := by omega
        subst hn0
        simp only [Nat.zero_mul, List.take_zero]
        exact shows_nil ws
      · refine shows_some hlen' hone (fun j v hv => ?_)
        have hj : j < n * ws := by rw [← hlen']; exact (List.getElem?_eq_some_iff.1 hv).1
        have hn0 : 0 < n := by
          rcases Nat.eq_zero_or_pos n with h0 | h0
          · subst h0; simp at hj
          · exact h0
        rw [hf (by omega), cell_at hb, hbs, Nat.zero_add]
        rw [List.getElem?_take, if_pos hj, List.getElem?_drop, List.getElem?_take] at hv
        split at hv
        · simpa using hv
        · simp at hv
    · simp at hs
  · simp at hs

theorem flat_take (ks : List CK) : ∀ (l : List (List Int)), (∀ r ∈ l, r.length = ks.length) → ∀ n, (l.take n).flatMap (rowVals ks) = (l.flatMap (rowVals ks)).take (n * ks.length)
  | [], _, n => by simp
  | a :: l, hl, n => by
    cases n with
    | zero => simp
    | succ n =>
      have ha : (rowVals ks a).length = ks.length := by simp [rowVals, hl a (List.mem_cons_self ..)]
      simp only [List.take_succ_cons, List.flatMap_cons, flat_take ks l (fun x hx => hl x (List.mem_cons_of_mem _ hx)) n, Nat.succ_mul]
      have e : (rowVals ks a).take (n * ks.length + ks.length) = rowVals ks a := List.take_of_length_le (by omega)
      rw [List.take_append, ha, e]
      congr 2; omega

theorem flat_drop (ks : List CK) : ∀ (l : List (List Int)), (∀ r ∈ l, r.length = ks.length) → ∀ n, (l.drop n).flatMap (rowVals ks) = (l.flatMap (rowVals ks)).drop (n * ks.length)
  | [], _, n => by simp
  | a :: l, hl, n => by
    cases n with
    | zero => simp
    | succ n =>
      have ha : (rowVals ks a).length = ks.length := by simp [rowVals, hl a (List.mem_cons_self ..)]
      simp only [List.drop_succ_cons, List.flatMap_cons, flat_drop ks l (fun x hx => hl x (List.mem_cons_of_mem _ hx)) n, Nat.succ_mul]
      have e : (rowVals ks a).drop (n * ks.length + ks.length) = [] := List.drop_eq_nil_of_le (by omega)
      rw [List.drop_append, ha, e, List.nil_append]
      congr 1; omega

theorem row_one : ∀ (ks : List CK) (r : List Int), ∀ u ∈ rowVals ks r, u.oneCell' = true
  | [], _, u, hu => by simp [rowVals] at hu
  | _ :: _, [], u, hu => by simp [rowVals] at hu
  | k :: ks, n :: r, u, hu => by
    simp only [rowVals, List.zipWith_cons_cons, List.mem_cons] at hu
    rcases hu with rfl | hu
    · cases k <;> rfl
    · exact row_one ks r u hu

theorem flat_one (ks : List CK) (l : List (List Int)) : ∀ u ∈ l.flatMap (rowVals ks), u.oneCell' = true := by
  intro u hu
  simp only [List.mem_flatMap] at hu
  obtain ⟨r, _, hr⟩ := hu
  exact row_one ks r u hr

theorem shown_ok (hpc : Holds I ρ pc) (m : Mem P I ρ η H S w0 w) {h ws : Nat} {off len : E} {cap : Option E} {xv : Value} (hx : V.den I ρ η (.slice h ws off len cap) xv) {ks : List CK} {B : E} {ns : List E}
    (hs : shown pc H (.slice h ws off len cap) = some (ks, B, ns)) (hn : Holds I ρ ns) :
    ws = ks.length ∧ 0 < ks.length ∧ (∀ r ∈ (B.den I ρ).l, r.length = ks.length) ∧ ((B.den I ρ).l.length : Int) = (len.den I ρ).i ∧ Shows P w xv (B.den I ρ).l.length ws ((B.den I ρ).l.flatMap (rowVals ks)) := by
  simp only [shown] at hs
  split at hs
  · rename_i ro ks' A hl
    split at hs
    · rename_i hw
      simp only [Option.some.injEq, Prod.mk.injEq] at hs
      obtain ⟨rfl, rfl, rfl⟩ := hs
      subst hw
      simp only [V.den] at hx
      obtain ⟨i, hi, ho0, hl0, hx⟩ := hx
      obtain ⟨hpos, hwd, hrows, hd⟩ := m.rows_read hl hi
      have n1 := holds_le (hn _ (List.mem_cons_self ..))
      rw [mkAdd_i, mkLen_i hpc] at n1
      have hlen : ((if off.same (.lit 0) && len.same (mkLen pc A) then E.un .len A else len).den I ρ).i = (len.den I ρ).i := by
        split
        · rename_i hc
          simp only [Bool.and_eq_true] at hc
          rw [E.same_eq hc.2, mkLen_i hpc]; rfl
        · rfl
      have hB : ((mkTake pc (mkDrop pc A off) (if off.same (.lit 0) && len.same (mkLen pc A) then E.un .len A else len)).den I ρ).l = ((A.den I ρ).l.drop (off.den I ρ).i.toNat).take (len.den I ρ).i.toNat := by
        rw [mkTake_l hpc, mkDrop_l hpc, hlen]
      rw [hB]
      have hBr : ∀ r ∈ ((A.den I ρ).l.drop (off.den I ρ).i.toNat).take (len.den I ρ).i.toNat, r.length = ks'.length := fun r hr => hrows r (List.mem_of_mem_drop (List.mem_of_mem_take hr))
      have hBl : (((A.den I ρ).l.drop (off.den I ρ).i.toNat).take (len.den I ρ).i.toNat).length = (len.den I ρ).i.toNat := by simp; omega
      refine ⟨rfl, hpos, hBr, by rw [hBl]; omega, ?_⟩
      rw [hBl]
      have hfl := flat_length ks' _ hBr
      rw [hBl] at hfl
      rcases hx with ⟨rfl, _, _, hz, _⟩ | ⟨C, f, hf, hC, hsz', _, rfl⟩
      · rw [hz]
        simp only [Int.toNat_zero, List.take_zero, List.flatMap_nil]
        exact shows_nil _
      · refine shows_some hfl (flat_one _ _) (fun j v hv => ?_)
        have hj : j < (len.den I ρ).i.toNat * ks'.length := by rw [← hfl]; exact (List.getElem?_eq_some_iff.1 hv).1
        have hn0 : 0 < (len.den I ρ).i.toNat := by
          rcases Nat.eq_zero_or_pos (len.den I ρ).i.toNat with h0 | h0
          · rw [h0] at hj; simp at hj
          · exact h0
        rw [hf (by omega)]
        rcases hd with ⟨_, h0⟩ | ⟨_, c', ty, fz, hb, _, hle, _, _, htake⟩
        · rw [h0] at n1; simp at n1; omega
        · rw [cell_at hb]
          rw [flat_take ks' _ (fun r hr => hrows r (List.mem_of_mem_drop hr)), flat_drop ks' _ hrows, ← htake] at hv
          rw [List.getElem?_take, if_pos hj, List.getElem?_drop, List.getElem?_take] at hv
          split at hv
          · rw [List.getElem?_drop] at hv
            simpa [Nat.add_assoc] using hv
          · simp at hv
    · simp at hs
  · simp at hs

theorem run_append_fit {t ty e : TypeId} {i : TypeInfo} (ht : P.underlying t = some (.slice e)) (hi : P.info? e = some i) {sa : Option Addr} {sLen sCap m : Nat} {xv : Value} {news : List Value}
    (hx : Shows P w xv m i.size news) (hroom : sLen + m ≤ sCap) :
    (Builtin.append_ #[t, t] ty #[.slice sa sLen sCap, xv]).run P w =
      match sa with
      | some a => ((storeCells (a.add (sLen * i.size)) news).run P w).andThen fun _ w' => .ok (.slice sa (sLen + m) sCap) w'
      | none => .ok (.slice none (sLen + m) sCap) w := by
  have h1 := hx.len w
  have h2 := hx.cells w rfl
  cases sa with
  | none => simp [Builtin.append_, run_underlying ht, sizeOf, typeInfo, hi, h1, h2, hroom]
  | some a => simp [Builtin.append_, run_underlying ht, sizeOf, typeInfo, hi, h1, h2, hroom]

theorem run_append_grow' {t ty e : TypeId} {i : TypeInfo} {z : Value} (ht : P.underlying t = some (.slice e)) (hi : P.info? e = some i) (hz : i.zero = some z) {sa : Option Addr} {sLen sCap m : Nat} {xv : Value} {olds news : List Value}
    (hs : Shows P w (.slice sa sLen sCap) sLen i.size olds) (hx : Shows P w xv m i.size news) (hg : sCap < sLen + m) (h63 : ((sLen + m : Nat) : Int) ≤ 9223372036854775807) (hfit : (sLen + m) * i.bytes ≤ 140737488355328) :
    (Builtin.append_ #[t, t] ty #[.slice sa sLen sCap, xv]).run P w =
      .ok (.slice (some ⟨w.heap.size, 0, none⟩) (sLen + m) (grownCap w (sLen + m) sCap e)) (w.drew.alloc (.cells ((olds ++ news).toArray ++ Builtin.zeroCells z.cells (grownCap w (sLen + m) sCap e - (sLen + m))) e)) := by
  have hn : ¬ (sLen + m ≤ sCap) := by omega
  have h63' : ¬ (9223372036854775807 < ((sLen : Int) + (m : Int))) := by omega
  have h48 := growslice_fits hg hfit
  have h48' : ¬ (281474976710656 < Builtin.nextslicecap (sLen + m) sCap * i.bytes) := by omega
  have h1 := hx.len w
  have hf := hx.cells w.drew rfl
  have hfo := hs.cells w.drew rfl
  simp [Builtin.append_, run_underlying ht, sizeOf, typeInfo, zeroValue, hi, hz, h1, hn, h63', h48', Question.forced, hf, hfo, newRow, grownCap]
  congr 2
  apply Array.ext'
  simp [List.append_assoc]

/-- What stands behind a new block that append has made. -/
theorem grow_cells (m : Mem P I ρ η H S w0 w) {fr : Nat} (hfr : look H fr = none) {cs : List V} {all : List Value} (hd : V.denL I ρ η cs all) {n cap ws : Nat} (hall : all.length = n * ws) (hcap : n ≤ cap) {z : Array Value} (hz : z.size = ws) (e : TypeId)
    {le : E} (hle : (le.den I ρ).i = (n : Int)) :
    ∃ η', η.le η' ∧ Mem P I ρ η' (setO H fr (.cells false cs)) S w0 (w.drew.alloc (.cells (all.toArray ++ Builtin.zeroCells z (cap - n)) e)) ∧
      V.den I ρ η' (.slice fr ws (.lit 0) le none) (.slice (some ⟨w.heap.size, 0, none⟩) n cap) := by
  have hcl := V.denL_length hd
  have hsz : (all.toArray ++ Builtin.zeroCells z (cap - n)).size = cap * ws := by
    simp only [Array.size_append, List.size_toArray, size_zeroCells, hz, hall, ← Nat.add_mul]
    congr 1; omega
  refine ⟨_, Env.le_ext ⟨w.heap.size, (all.toArray ++ Builtin.zeroCells z (cap - n)).size, 0, 0⟩ (m.free fr hfr), ?_, ?_⟩
  · exact m.newCells hfr (c := all.toArray ++ Builtin.zeroCells z (cap - n)) (ty := e) (w' := w.drew.alloc (.cells (all.toArray ++ Builtin.zeroCells z (cap - n)) e))
      (by rw [Array.toList_append, List.take_append_of_le_length (by simp [hcl]), List.take_of_length_le (by simp [hcl])]; exact hd)
      (by simp [hcl]) rfl rfl rfl rfl 0
  · exact den_slice_new (Env.ext_self ..) hle hcap (by rw [hsz]; exact Nat.le_refl _) (fun c hc => by simp at hc)

theorem grow_rows (m : Mem P I ρ η H S w0 w) {fr : Nat} (hfr : look H fr = none) {ks : List CK} {A : E} (hks : 0 < ks.length) (hrows : ∀ r ∈ (A.den I ρ).l, r.length = ks.length) {n cap : Nat} (hn : (A.den I ρ).l.length = n) (hn0 : 0 < cap) (hcap : n ≤ cap)
    {all : List Value} (hall : all = (A.den I ρ).l.flatMap (rowVals ks)) {z : Array Value} (hz : z.size = ks.length) (e : TypeId) {le : E} (hle : (le.den I ρ).i = (n : Int)) :
    ∃ η', η.le η' ∧ Mem P I ρ η' (setO H fr (.rows false ks A)) S w0 (w.drew.alloc (.cells (all.toArray ++ Builtin.zeroCells z (cap - n)) e)) ∧
      V.den I ρ η' (.slice fr ks.length (.lit 0) le none) (.slice (some ⟨w.heap.size, 0, none⟩) n cap) := by
  have hal : all.length = n * ks.length := by rw [hall, flat_length ks _ hrows, hn]
  have hsz : (all.toArray ++ Builtin.zeroCells z (cap - n)).size = cap * ks.length := by
    simp only [Array.size_append, List.size_toArray, size_zeroCells, hz, hal, ← Nat.add_mul]
    congr 1; omega
  refine ⟨_, Env.le_ext ⟨w.heap.size, cap * ks.length, ks.length, 0⟩ (m.free fr hfr), ?_, ?_⟩
  · refine m.fresh hfr (ob := .cells (all.toArray ++ Builtin.zeroCells z (cap - n)) e) rfl rfl rfl rfl rfl rfl (by intro e; cases e) ?_
    refine den_rows_own rfl ⟨hks, rfl, hrows, .inr ⟨Nat.mul_pos hn0 hks, _, e, (0, 0), rfl, fun _ => rfl, ?_, hsz, ?_⟩⟩
    · rw [hsz, hn]; exact Nat.mul_le_mul_right _ hcap
    · rw [hn, Array.toList_append, List.take_append_of_le_length (by simp [hal]), List.take_of_length_le (by simp [hal])]
      exact hall
  · exact den_slice_new (Env.ext_self ..) hle hcap (Nat.le_refl _) (fun c hc => by simp at hc)

theorem roomE_ok {bytes : Nat} {n : E} {k : Nat} (h : Holds I ρ (roomE bytes n)) (hk : (n.den I ρ).i = (k : Int)) : k * bytes ≤ 140737488355328 ∧ ((k : Nat) : Int) ≤ 9223372036854775807 := by
  have h1 := holds_le (h _ (List.mem_cons_self ..))
  rw [hk, lit_i] at h1
  have h2 : k ≤ 140737488355328 / (bytes + 1) := by omega
  have h3 : k * (bytes + 1) ≤ 140737488355328 := (Nat.le_div_iff_mul_le (by omega)).1 h2
  rw [Nat.mul_succ] at h3
  have h4 : 140737488355328 / (bytes + 1) ≤ 140737488355328 := Nat.div_le_self _ _
  constructor
  · omega
  · omega

theorem look_dead {h fr : Nat} {o : O} (hl : look H h = some o) (hfr : look H fr = none) : look (setO H h .dead) fr = none := by
  rw [look_setO (by intro e; cases e), if_neg]
  · exact hfr
  · rintro rfl; rw [hl] at hfr; simp at hfr

end
end Go.Sx
