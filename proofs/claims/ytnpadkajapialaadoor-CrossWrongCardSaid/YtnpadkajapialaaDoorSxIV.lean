/- The symbolic executor, proved sound: used by the laws' proofs of this seat. No conditions. -/
import Derived.Test.YtnpadkajapialaaDoorSxIII
import Derived.Orders
/- The symbolic executor, part W: the tree of ways is sound; from template to template to the return. -/
namespace Go.Sx
open Go

section
variable {C : Ctx} {I : Itp} {ρ : List U} {pc : List E} {η : Env} {S : Nat → Prop} {w0 w : World} {s : St} {F : Frame} {Fs cs : List Frame}

def TOk (C : Ctx) (I : Itp) (ρ : List U) (η : Env) (S : Nat → Prop) (w0 : World) (cs : List Frame) (bot : Nat) (m : Machine) : T → Prop
  | .stop pc s => Holds I ρ pc ∧ Nx C I ρ η S w0 cs bot m s
  | .ret pc v H => Holds I ρ pc ∧ Rx C I ρ η S w0 cs bot m v H
  | .br c a b => ((c.den I ρ).b = true → TOk C I ρ η S w0 cs bot m a) ∧ ((c.den I ρ).b = false → TOk C I ρ η S w0 cs bot m b)
  | .need ns t => Holds I ρ ns → TOk C I ρ η S w0 cs bot m t
  | .bad _ _ => True
  | .fuel _ => True
  | .alt a b => TOk C I ρ η S w0 cs bot m a ∨ TOk C I ρ η S w0 cs bot m b

theorem altT_ok {bot : Nat} {m : Machine} : ∀ (ts : List T), (∃ t ∈ ts, TOk C I ρ η S w0 cs bot m t) → TOk C I ρ η S w0 cs bot m (altT ts)
  | [], h => by obtain ⟨t, ht, _⟩ := h; cases ht
  | [t], h => by obtain ⟨t', ht, hk⟩ := h; rw [List.mem_singleton] at ht; subst ht; exact hk
  | t :: u :: ts, h => by
    obtain ⟨t', ht, hk⟩ := h
    rcases List.mem_cons.1 ht with rfl | ht
    · exact .inl hk
    · exact .inr (altT_ok (u :: ts) ⟨t', ht, hk⟩)

theorem exec_ok (hC : CtrOk C I) (hD : DrawOk C I) : ∀ (n : Nat) (pc : List E) (s : St) (bot : Nat) (m : Machine), Holds I ρ pc → Nx C I ρ η S w0 cs bot m s → TOk C I ρ η S w0 cs bot m (exec C n pc s)
  | 0, _, _, _, _, _, _ => trivial
  | n + 1, pc, s, bot, m, hpc, hx => by
    have on : ∀ (pc : List E) (s : St), Holds I ρ pc → Nx C I ρ η S w0 cs bot m s → TOk C I ρ η S w0 cs bot m (if isHead C s then .stop pc s else exec C n pc s) := by
      intro pc s hpc hx
      split
      · exact ⟨hpc, hx⟩
      · exact exec_ok hC hD n pc s bot m hpc hx
    obtain ⟨η', F, Fs, w', hle, hs, d, hb⟩ := hx
    have hst := stepT_ok (cs := cs) hC hD hpc d
    have comp : ∀ {s' : St}, Nx C I ρ η' S w0 cs (botFn s.top s.below) (lone F (Fs ++ cs) w') s' → Nx C I ρ η S w0 cs bot m s' := by
      rintro s' ⟨η2, F2, Fs2, w2, h1, h2, h3, h4⟩
      exact ⟨η2, F2, Fs2, w2, Env.le_trans hle h1, hs.trans h2, h3, h4.trans hb⟩
    unfold exec
    simp only
    cases hout : stepT C pc s with
    | next s' =>
      rw [hout] at hst
      exact on pc s' hpc (comp hst)
    | br c s' =>
      rw [hout] at hst
      exact ⟨fun h => exec_ok hC hD n _ s' bot m ((assume_ok c h).append hpc) (comp hst), fun h => exec_ok hC hD n _ s' bot m ((deny_ok c h).append hpc) (comp hst)⟩
    | two c a b =>
      rw [hout] at hst
      exact ⟨fun h => on _ a ((assume_ok c h).append hpc) (comp (hst.1 h)), fun h => on _ b ((deny_ok c h).append hpc) (comp (hst.2 h))⟩
    | need ns s' =>
      rw [hout] at hst
      exact fun h => on _ s' (h.append hpc) (comp (hst h))
    | ret v H =>
      rw [hout] at hst
      obtain ⟨η2, fr, x, w2, h1, h2, h3, h4⟩ := hst
      exact ⟨hpc, η2, fr, x, w2, Env.le_trans hle h1, hs.trans h2, h3.trans hb, h4⟩
    | bad k => trivial
    | alts ss =>
      rw [hout] at hst
      obtain ⟨s', hs', hx⟩ := hst
      exact altT_ok _ ⟨_, List.mem_map.2 ⟨s', hs', rfl⟩, on pc s' hpc (comp hx)⟩

/-- The machine comes to a state that a template stands for. -/
def Gx (C : Ctx) (I : Itp) (ρ : List U) (nr : Nat) (η : Env) (S : Nat → Prop) (w0 : World) (cs : List Frame) (bot : Nat) (m : Machine) (t : St) : Prop :=
  ∃ η' F Fs w', Same nr η η' ∧ Steps C.P m (lone F (Fs ++ cs) w') ∧ Den C I ρ η' S w0 t F Fs w' ∧ botFn t.top t.below = bot

/-- The machine comes to a return that a template stands for. -/
def Ex (C : Ctx) (I : Itp) (ρ : List U) (nr : Nat) (η : Env) (S : Nat → Prop) (w0 : World) (cs : List Frame) (bot : Nat) (m : Machine) (r : Rt) : Prop :=
  ∃ η' fr x w', Same nr η η' ∧ Steps C.P m (lone fr cs w') ∧ fr.fn = bot ∧ fr.leaving C.P w' (.returned x) ∧ V.den I ρ η' r.v x ∧ Mem C.P I ρ η' r.H S w0 w'

def SOk (C : Ctx) (I : Itp) (ρ : List U) (nr : Nat) (tms : List Tm) (r : Rt) (η : Env) (S : Nat → Prop) (w0 : World) (cs : List Frame) (bot : Nat) (m : Machine) : ST → Prop
  | .goto j θ => ∃ t, tms[j]? = some t ∧ Gx C I (θ.map (E.den I ρ)) nr η S w0 cs bot m t.st
  | .ret θ => Ex C I (θ.map (E.den I ρ)) nr η S w0 cs bot m r
  | .br c a b => ((c.den I ρ).b = true → SOk C I ρ nr tms r η S w0 cs bot m a) ∧ ((c.den I ρ).b = false → SOk C I ρ nr tms r η S w0 cs bot m b)
  | .need ns t => Holds I ρ ns → SOk C I ρ nr tms r η S w0 cs bot m t
  | .bad _ => True
  | .alt a b => SOk C I ρ nr tms r η S w0 cs bot m a ∨ SOk C I ρ nr tms r η S w0 cs bot m b

theorem fitTm_ok {nr : Nat} (hin : GlIn C.gl nr) {tms : List Tm} {r : Rt} {bot : Nat} {m : Machine} (hpc : Holds I ρ pc) (hx : Nx C I ρ η S w0 cs bot m s) : ∀ (ts : List Tm) (j : Nat), (∀ i t, ts[i]? = some t → tms[j + i]? = some t) →
    SOk C I ρ nr tms r η S w0 cs bot m (fitTm nr pc s ts j)
  | [], _, _ => trivial
  | t :: ts, j, hts => by
    have rest : SOk C I ρ nr tms r η S w0 cs bot m (fitTm nr pc s ts (j + 1)) := fitTm_ok hin hpc hx ts (j + 1) (fun i t' hi => by
      have := hts (i + 1) t' (by simpa using hi)
      rw [show j + 1 + i = j + (i + 1) from by omega]; exact this)
    unfold fitTm
    split
    · simp only
      split
      · rename_i hfit
        simp only [Bool.and_eq_true] at hfit
        obtain ⟨η', F, Fs, w', hle, hs, d, hb⟩ := hx
        obtain ⟨h1, h2, h3⟩ := subSt_den hpc d hfit.1 hin hfit.2
        exact ⟨t, by simpa using hts 0 t rfl, _, F, Fs, w', (Same.of_le hle).trans h2, hs, h1, h3.trans hb⟩
      · exact rest
    · exact rest

theorem fitRt_ok {nr : Nat} {tms : List Tm} {r : Rt} {bot : Nat} {m : Machine} {v : V} {H : List O} (hpc : Holds I ρ pc) (hx : Rx C I ρ η S w0 cs bot m v H) : SOk C I ρ nr tms r η S w0 cs bot m (fitRt nr pc v H r) := by
  unfold fitRt
  simp only
  split
  · rename_i hfit
    simp only [Bool.and_eq_true] at hfit
    obtain ⟨⟨h1, h2⟩, h3⟩ := hfit
    obtain ⟨η', fr, x, w', hle, hs, hb, hlv, hv, hm, hg⟩ := hx
    refine ⟨_, fr, x, w', (Same.of_le hle).trans (fun k hk i hi => by rw [via_role h3 hk]; exact hi), hs, hb, hlv, subV_ok hpc _ _ _ h1 hv, subH_mem hpc hm h2⟩
  · trivial

theorem summ_ok {nr : Nat} (hin : GlIn C.gl nr) {tms : List Tm} {r : Rt} {bot : Nat} {m : Machine} : ∀ t : T, TOk C I ρ η S w0 cs bot m t → SOk C I ρ nr tms r η S w0 cs bot m (summ nr tms r t)
  | .stop pc s, h => fitTm_ok hin h.1 h.2 tms 0 (fun i t hi => by simpa using hi)
  | .ret pc v H, h => fitRt_ok h.1 h.2
  | .br c a b, h => ⟨fun hc => summ_ok hin a (h.1 hc), fun hc => summ_ok hin b (h.2 hc)⟩
  | .need ns t, h => fun hn => summ_ok hin t (h hn)
  | .bad _ _, _ => trivial
  | .fuel _, _ => trivial
  | .alt a b, h => h.elim (fun h => .inl (summ_ok hin a h)) (fun h => .inr (summ_ok hin b h))

end

/-- What is asked of a summary. -/
def StOk (I : Itp) (ρ : List U) (G : Nat → List U → Prop) (Fin : List U → Prop) : ST → Prop
  | .goto k θ => G k (θ.map (E.den I ρ))
  | .ret θ => Fin (θ.map (E.den I ρ))
  | .br c a b => ((c.den I ρ).b = true → StOk I ρ G Fin a) ∧ ((c.den I ρ).b = false → StOk I ρ G Fin b)
  | .need ns t => Holds I ρ ns ∧ (Holds I ρ ns → StOk I ρ G Fin t)
  | .bad _ => False
  | .alt a b => StOk I ρ G Fin a ∧ StOk I ρ G Fin b

/-- FROM TEMPLATE TO TEMPLATE TO THE RETURN. -/
theorem run_ok {C : Ctx} {I : Itp} (hC : CtrOk C I) (hD : DrawOk C I) {nr : Nat} (hin : GlIn C.gl nr) {tms : List Tm} {r : Rt} {fuel : Nat} {sums : List ST} (hsum : tms.map (summary C fuel nr tms r) = sums)
    {α : Type} {lt : α → α → Prop} (hwf : WellFounded lt) (Inv : Nat → List U → Prop) (μ : Nat → List U → α) (Fin : List U → Prop)
    (hpre : ∀ j t ρ, tms[j]? = some t → Inv j ρ → Holds I ρ t.pre)
    (hstep : ∀ j st ρ, sums[j]? = some st → Inv j ρ → StOk I ρ (fun k ρ' => Inv k ρ' ∧ lt (μ k ρ') (μ j ρ)) Fin st)
    {S : Nat → Prop} {w0 : World} {cs : List Frame} {bot : Nat} :
    ∀ (a : α) (j : Nat) (t : Tm) (ρ : List U) (η : Env) (m : Machine), μ j ρ = a → tms[j]? = some t → Inv j ρ → Gx C I ρ nr η S w0 cs bot m t.st →
      ∃ ρf, Fin ρf ∧ Ex C I ρf nr η S w0 cs bot m r := by
  intro a
  induction a using hwf.induction with
  | _ a ih =>
    intro j t ρ η m hμ ht hI hx
    obtain ⟨η1, F, Fs, w1, hS, hs, d, hb⟩ := hx
    have hsj : sums[j]? = some (summary C fuel nr tms r t) := by rw [← hsum]; simp [ht]
    have hok := hstep j _ ρ hsj hI
    have hT : TOk C I ρ η1 S w0 cs bot (lone F (Fs ++ cs) w1) (exec C fuel t.pre t.st) :=
      exec_ok hC hD fuel t.pre t.st bot _ (hpre j t ρ ht hI) ⟨η1, F, Fs, w1, Env.le_refl _, Steps.refl _ _, d, hb⟩
    have hSO : SOk C I ρ nr tms r η1 S w0 cs bot (lone F (Fs ++ cs) w1) (summary C fuel nr tms r t) := summ_ok hin _ hT
    have go : ∀ st : ST, SOk C I ρ nr tms r η1 S w0 cs bot (lone F (Fs ++ cs) w1) st → StOk I ρ (fun k ρ' => Inv k ρ' ∧ lt (μ k ρ') (μ j ρ)) Fin st → ∃ ρf, Fin ρf ∧ Ex C I ρf nr η1 S w0 cs bot (lone F (Fs ++ cs) w1) r := by
      intro st
      induction st with
      | goto k θ =>
        intro h1 h2
        obtain ⟨t', ht', hg⟩ := h1
        exact ih (μ k (θ.map (E.den I ρ))) (hμ ▸ h2.2) k t' _ η1 _ rfl ht' h2.1 hg
      | ret θ =>
        intro h1 h2
        exact ⟨_, h2, h1⟩
      | br c x y ihx ihy =>
        intro h1 h2
        cases hc : (c.den I ρ).b with
        | true => exact ihx (h1.1 hc) (h2.1 hc)
        | false => exact ihy (h1.2 hc) (h2.2 hc)
      | need ns x ihx =>
        intro h1 h2
        exact ihx (h1 h2.1) (h2.2 h2.1)
      | bad n =>
        intro _ h2
        exact h2.elim
      | alt x y ihx ihy =>
        intro h1 h2
        rcases h1 with h1 | h1
        · exact ihx h1 h2.1
        · exact ihy h1 h2.2
    obtain ⟨ρf, hf, η2, fr, x, w2, e1, e2, e3⟩ := go _ hSO hok
    exact ⟨ρf, hf, η2, fr, x, w2, hS.trans e1, hs.trans e2, e3⟩

end Go.Sx

/- The symbolic executor, part X: the frame rule; contracts. -/
namespace Go.Sx
open Go

section
variable {P : Program} {I : Itp} {ρ : List U} {pc : List E} {η : Env} {H : List O} {S : Nat → Prop} {w0 w w' : World}

/-- THE FRAME RULE: something has written S' alone and made blocks; the handles of upd have turned. -/
theorem Mem.frame (m : Mem P I ρ η H S w0 w) {S' : Nat → Prop} (k : Keeps S' w w') (hS' : ∀ b, S' b → S b ∨ w0.heap.size ≤ b) (upd : Nat → Prop)
    {H' : List O} {η' : Env} (hle : η.le η') (hsame : ∀ h, ¬ upd h → look H' h = look H h) (hfree : ∀ h, look H' h = none → η' h = none)
    (hkeep : ∀ h o i, ¬ upd h → look H h = some o → η h = some i → o.hasBlk i → ¬ S' i.blk)
    (hobj : ∀ h o, upd h → look H' h = some o → o.isRo = false ∧ ∃ i, η' h = some i ∧ o.den P I ρ η' i w'.heap[i.blk]? ∧ (o.hasBlk i → S' i.blk ∨ w.heap.size ≤ i.blk))
    (hap : ∀ h h' o o' i i', h ≠ h' → upd h → upd h' → look H' h = some o → look H' h' = some o' → η' h = some i → η' h' = some i' → o.hasBlk i → o'.hasBlk i' → i.blk ≠ i'.blk) :
    Mem P I ρ η' H' S w0 w' := by
  -- an object that has not turned
  have old : ∀ h o i, ¬ upd h → look H' h = some o → η' h = some i → look H h = some o ∧ η h = some i := by
    intro h o i hu hl hi
    rw [hsame h hu] at hl
    obtain ⟨j, hj, _⟩ := m.obj h o hl
    rw [hle h j hj] at hi
    simp only [Option.some.injEq] at hi
    subst hi
    exact ⟨hl, hj⟩
  have blk : ∀ h o i, look H h = some o → η h = some i → o.hasBlk i → i.blk < w.heap.size := by
    intro h o i hl hi hb
    obtain ⟨j, hj, hd⟩ := m.obj h o hl
    rw [hi] at hj; simp only [Option.some.injEq] at hj; subst hj
    exact O.block_there hd hb
  have new : ∀ h o i, upd h → look H' h = some o → η' h = some i → o.hasBlk i → S' i.blk ∨ w.heap.size ≤ i.blk := by
    intro h o i hu hl hi hb
    obtain ⟨_, j, hj, _, hw⟩ := hobj h o hu hl
    rw [hi] at hj; simp only [Option.some.injEq] at hj; subst hj
    exact hw hb
  refine ⟨hfree, ?_, ?_, ?_, ?_, m.keeps.step k hS'⟩
  · intro h o hl
    by_cases hu : upd h
    · obtain ⟨_, i, hi, hd, _⟩ := hobj h o hu hl
      exact ⟨i, hi, hd⟩
    · have hl' := hl
      rw [hsame h hu] at hl'
      obtain ⟨i, hi, hd⟩ := m.obj h o hl'
      refine ⟨i, hle h i hi, O.den_congr (O.den_mono hle hd) (fun hb => k.block _ (O.block_there hd hb) (hkeep h o i hu hl' hi hb))⟩
  · intro h o i hl hi hr hb
    by_cases hu : upd h
    · have := (hobj h o hu hl).1
      rw [this] at hr; simp at hr
    · obtain ⟨h1, h2⟩ := old h o i hu hl hi
      exact m.old h o i h1 h2 hr hb
  · intro h o i hl hi hr hb
    by_cases hu : upd h
    · rcases new h o i hu hl hi hb with h1 | h1
      · exact hS' _ h1
      · exact .inr (Nat.le_trans m.keeps.size h1)
    · obtain ⟨h1, h2⟩ := old h o i hu hl hi
      exact m.own h o i h1 h2 hr hb
  · intro h h' o o' i i' hne hl hl' hi hi' hr hr' hb hb'
    by_cases hu : upd h
    · by_cases hu' : upd h'
      · exact hap h h' o o' i i' hne hu hu' hl hl' hi hi' hb hb'
      · obtain ⟨h1, h2⟩ := old h' o' i' hu' hl' hi'
        intro e
        rcases new h o i hu hl hi hb with h3 | h3
        · exact hkeep h' o' i' hu' h1 h2 hb' (e ▸ h3)
        · have := blk h' o' i' h1 h2 hb'
          omega
    · obtain ⟨h1, h2⟩ := old h o i hu hl hi
      by_cases hu' : upd h'
      · intro e
        rcases new h' o' i' hu' hl' hi' hb' with h3 | h3
        · exact hkeep h o i hu h1 h2 hb (e ▸ h3)
        · have := blk h o i h1 h2 hb
          omega
      · obtain ⟨h3, h4⟩ := old h' o' i' hu' hl' hi'
        exact m.apart h h' o o' i i' hne h1 h3 h2 h4 hr hr' hb hb'

/-- The last that a list of effects lays at a handle. -/
def lastW : List (Nat × O) → Nat → Option O
  | [], _ => none
  | (h0, o) :: l, h => match lastW l h with
    | some q => some q
    | none => if h0 = h then some o else none

theorem lastW_mem : ∀ {l : List (Nat × O)} {h : Nat} {o : O}, lastW l h = some o → (h, o) ∈ l
  | [], _, _, hh => by simp [lastW] at hh
  | (h0, q) :: l, h, o, hh => by
    simp only [lastW] at hh
    split at hh
    · rename_i p hp
      simp only [Option.some.injEq] at hh; subst hh
      exact List.mem_cons_of_mem _ (lastW_mem hp)
    · split at hh
      · rename_i he
        simp only [Option.some.injEq] at hh; subst hh; subst he
        exact List.mem_cons_self ..
      · simp at hh

theorem lastW_none : ∀ {l : List (Nat × O)} {h : Nat}, lastW l h = none → ∀ o, (h, o) ∉ l
  | [], _, _, o => by simp
  | (h0, q) :: l, h, hh, o => by
    simp only [lastW] at hh
    split at hh
    · simp at hh
    · rename_i hn
      split at hh
      · simp at hh
      · rename_i hne
        simp only [List.mem_cons, Prod.mk.injEq, not_or]
        exact ⟨fun e => hne e.1.symm, lastW_none hn o⟩

theorem look_applyEff : ∀ (l : List (Nat × O)) (H : List O) (h : Nat), (∀ e ∈ l, e.2 ≠ .free) → look (applyEff H l) h = match lastW l h with | some o => some o | none => look H h
  | [], H, h, _ => rfl
  | (h0, o) :: l, H, h, hf => by
    have ho : o ≠ .free := hf (h0, o) (List.mem_cons_self ..)
    simp only [applyEff, lastW]
    rw [look_applyEff l (setO H h0 o) h (fun e he => hf e (List.mem_cons_of_mem _ he))]
    cases lastW l h with
    | some q => rfl
    | none =>
      simp only
      rw [look_setO ho]
      by_cases he : h0 = h
      · rw [if_pos he, if_pos he.symm]
      · rw [if_neg he, if_neg (fun e => he e.symm)]

/-! ### what a contract says, said at a call -/

theorem subst_den (I : Itp) (ρ : List U) (o' : List E) (e : E) : (e.subst o').den I ρ = e.den I (o'.map (E.den I ρ)) := E.den_subst I ρ o' e

/-- the callee's handles against the caller's -/
def Goes (ηA ηB : Env) (τ : List Nat) (cv : Nat → Bool) : Prop := ∀ h i, ηA h = some i → ∃ j, ηB (τ.getD h 0) = some j ∧ j.blk = i.blk ∧ j.sz = i.sz ∧ j.bs = i.bs ∧ (cv h = false → j = i)

mutual
theorem inst_ok {o' : List E} {τ : List Nat} {cv : Nat → Bool} {ηA ηB : Env} (g : Goes ηA ηB τ cv) : ∀ (v : V) (x : Value), v.ptrOk cv = true → V.den I (o'.map (E.den I ρ)) ηA v x → V.den I ρ ηB (v.inst o' τ) x
  | .junk, _, _, _ => trivial
  | .int k e, x, _, hv => by simp only [V.inst, V.den, subst_den] at hv ⊢; exact hv
  | .bool e, x, _, hv => by simp only [V.inst, V.den, subst_den] at hv ⊢; exact hv
  | .ptr h r c, x, hp, hv => by
    simp only [V.inst, V.den, subst_den] at hv ⊢
    obtain ⟨i, hi, h1, h2, h3⟩ := hv
    obtain ⟨j, hj, hb, hz, _, he⟩ := g h i hi
    have := he (by simpa [V.ptrOk] using hp)
    subst this
    exact ⟨j, hj, h1, h2, h3⟩
  | .nilp, x, _, hv => by simp only [V.inst, V.den] at hv ⊢; exact hv
  | .slice h w o n cap, x, _, hv => by
    simp only [V.inst, V.den, subst_den] at hv ⊢
    obtain ⟨i, hi, h1, h2, h3⟩ := hv
    obtain ⟨j, hj, hb, hz, hB, _⟩ := g h i hi
    have hcap : ∀ (z : Int), (∀ e, cap = some e → (e.den I (o'.map (E.den I ρ))).i = z) → ∀ e, cap.map (E.subst o') = some e → (e.den I ρ).i = z := by
      intro z hz e he
      cases cap with
      | none => simp at he
      | some c =>
        simp only [Option.map_some, Option.some.injEq] at he
        subst he
        rw [subst_den]; exact hz c rfl
    refine ⟨j, hj, h1, h2, ?_⟩
    rw [hb, hz, hB]
    rcases h3 with ⟨a1, a2, a3, a4, a5⟩ | ⟨Cc, f, a1, a2, a3, a4, a5⟩
    · exact .inl ⟨a1, a2, a3, a4, hcap 0 a5⟩
    · exact .inr ⟨Cc, f, a1, a2, a3, hcap Cc a4, a5⟩
  | .nils, x, _, hv => by simp only [V.inst, V.den] at hv ⊢; exact hv
  | .func f cs, x, hp, hv => by
    simp only [V.ptrOk] at hp
    simp only [V.inst, V.den] at hv ⊢
    obtain ⟨xs, hx, hc⟩ := hv
    exact ⟨xs, hx, instL_ok g cs _ hp hc⟩
  | .nilf, x, _, hv => by simp only [V.inst, V.den] at hv ⊢; exact hv
  | .yld h, x, _, hv => by
    simp only [V.inst, V.den] at hv ⊢
    obtain ⟨i, hi, hx⟩ := hv
    obtain ⟨j, hj, hb, _⟩ := g h i hi
    exact ⟨j, hj, by rw [hx, hb]⟩
  | .map h, x, _, hv => by
    simp only [V.inst, V.den] at hv ⊢
    obtain ⟨i, hi, hx⟩ := hv
    obtain ⟨j, hj, hb, _⟩ := g h i hi
    exact ⟨j, hj, by rw [hx, hb]⟩
  | .nilm, x, _, hv => by simp only [V.inst, V.den] at hv ⊢; exact hv
  | .agg cs, x, hp, hv => by
    simp only [V.ptrOk] at hp
    simp only [V.inst, V.den] at hv ⊢
    obtain ⟨xs, hx, hc⟩ := hv
    exact ⟨xs, hx, instL_ok g cs _ hp hc⟩
  | .tup cs, x, hp, hv => by
    simp only [V.ptrOk] at hp
    simp only [V.inst, V.den] at hv ⊢
    obtain ⟨xs, hx, hc⟩ := hv
    exact ⟨xs, hx, instL_ok g cs _ hp hc⟩
theorem instL_ok {o' : List E} {τ : List Nat} {cv : Nat → Bool} {ηA ηB : Env} (g : Goes ηA ηB τ cv) : ∀ (vs : List V) (xs : List Value), V.ptrOkL cv vs = true → V.denL I (o'.map (E.den I ρ)) ηA vs xs → V.denL I ρ ηB (V.instL o' τ vs) xs
  | [], xs, _, hv => by simp only [V.instL, V.denL] at hv ⊢; exact hv
  | v :: vs, xs, hp, hv => by
    simp only [V.ptrOkL, Bool.and_eq_true] at hp
    simp only [V.instL, V.denL] at hv ⊢
    obtain ⟨y, ys, hx, hy, hys⟩ := hv
    exact ⟨y, ys, hx, inst_ok g v y hp.1 hy, instL_ok g vs ys hp.2 hys⟩
end

theorem instL_length (o' : List E) (τ : List Nat) : ∀ vs : List V, (V.instL o' τ vs).length = vs.length
  | [] => rfl
  | v :: vs => by simp [V.instL, instL_length o' τ vs]

/-- an object of a contract's, at a call -/
theorem instO_ok {o' : List E} {τ : List Nat} {cv : Nat → Bool} {ηA ηB : Env} (g : Goes ηA ηB τ cv) {o : O} (hp : o.plain = true) (hq : o.ptrOk cv = true) {i : Info} {x : Option Obj} (hd : o.den P I (o'.map (E.den I ρ)) ηA i x) :
    (o.inst o' τ).den P I ρ ηB i x ∧ (o.inst o' τ).isRo = false ∧ ((o.inst o' τ).hasBlk i → o.hasBlk i) ∧ o.inst o' τ ≠ .free ∧ o.isRo = false := by
  unfold O.plain at hp
  split at hp
  · rename_i cs
    obtain ⟨hbs, c, ty, fz, hx, h1, h2, h3, h4⟩ := hd
    refine ⟨⟨hbs, c, ty, fz, hx, h1, ?_, h3, ?_⟩, rfl, fun h => h, (by intro e; cases e), rfl⟩
    · rw [instL_length]; exact h2
    · rw [instL_length]; exact instL_ok g cs _ hq h4
  · rename_i ks A
    obtain ⟨h1, h2, h3, h0, h4⟩ := hd
    refine ⟨⟨h1, h2, ?_, h0, ?_⟩, rfl, fun h => h, (by intro e; cases e), rfl⟩
    · rw [subst_den]; exact h3
    · rw [subst_den]; exact h4
  · exact ⟨trivial, rfl, fun h => h, (by intro e; cases e), rfl⟩
  · simp at hp

end
end Go.Sx

/- The symbolic executor, part Y: a contract at a call. -/
namespace Go.Sx
open Go

/-- The blocks of a memory that may be written. -/
def ownS (T : List O) (ηT : Env) : Nat → Prop := fun b => ∃ h o i, look T h = some o ∧ ηT h = some i ∧ o.isRo = false ∧ o.hasBlk i ∧ i.blk = b

/-- A contract holds. -/
structure Ctr.Valid (C : Ctx) (I : Itp) (c : Ctr) : Prop where
  has : ∃ g b, C.P.funcs[c.fn]? = some g ∧ g.body = some b ∧ (g.name == "runtime.NumGoroutine") = false
  wf : c.wf = true
  run : ∀ (ρ : List U) (η : Env) (w : World) (vs : Array Value), Holds I ρ c.pre → GlOk C.gl η → Mem C.P I ρ η c.H (ownS c.H η) w w → V.denL I ρ η c.args vs.toList → ∀ cs : List Frame,
    ∃ x w' η', RetsIn C.P c.fn vs w cs x w' ∧ Same c.H.length η η' ∧ V.den I (c.outs.map (E.den I ρ)) η' c.res x ∧ Mem C.P I (c.outs.map (E.den I ρ)) η' c.fin (ownS c.H η) w w'

section
variable {C : Ctx} {I : Itp} {ρ : List U} {pc : List E} {η : Env} {H : List O} {S : Nat → Prop} {w0 w : World}

theorem wfO_at : ∀ {T : List O} {ps : List (Option O)}, wfO T ps = true → T.length = ps.length ∧ ∀ (h : Nat) (o : O), T[h]? = some o → o ≠ .free ∧
    ((∃ q : O, ps[h]? = some (some q) ∧ o.isRo = false ∧ q.plain = true) ∨ (ps[h]? = some none ∧ (o.isRo = true ∨ o = .dead)))
  | [], [], _ => ⟨rfl, fun h o ho => by simp at ho⟩
  | [], _ :: _, h => by simp [wfO] at h
  | _ :: _, [], h => by simp [wfO] at h
  | t :: T, p :: ps, h => by
    simp only [wfO, Bool.and_eq_true] at h
    obtain ⟨h1, h2⟩ := wfO_at h.2
    refine ⟨by simp [h1], fun k o ho => ?_⟩
    cases k with
    | succ k => simpa using h2 k o (by simpa using ho)
    | zero =>
      simp only [List.getElem?_cons_zero, Option.some.injEq] at ho
      subst ho
      have h3 := h.1
      split at h3
      · simp at h3
      · rename_i q hnf
        simp only [Bool.and_eq_true, Bool.not_eq_true'] at h3
        exact ⟨hnf, .inl ⟨q, rfl, h3.1, h3.2⟩⟩
      · rename_i hnf
        refine ⟨hnf, .inr ⟨rfl, ?_⟩⟩
        simp only [Bool.or_eq_true] at h3
        rcases h3 with h3 | h3
        · exact .inl h3
        · right
          cases t <;> simp_all

theorem shOk_at : ∀ {σ : List SH} {ps : List (Option O)}, shOk σ ps = true → ∀ (h : Nat) (p : Option O), ps[h]? = some p → (∃ a : Nat, σ[h]? = some (SH.to a)) ∨ (∃ a : Nat, σ[h]? = some (SH.conv a) ∧ p = none)
  | [], [], _, h, p, hp => by simp at hp
  | [], _ :: _, h, _, _, _ => by simp [shOk] at h
  | s :: σ, [], h, _, _, hp => by simp at hp
  | s :: σ, q :: ps, h, k, p, hp => by
    have tail : shOk σ ps = true ∧ ((∃ a, s = .to a) ∨ (∃ a, s = .conv a ∧ q = none)) := by
      cases s with
      | to a => exact ⟨by simpa [shOk] using h, .inl ⟨a, rfl⟩⟩
      | conv a =>
        cases q with
        | none => exact ⟨by simpa [shOk] using h, .inr ⟨a, rfl, rfl⟩⟩
        | some o => simp [shOk] at h
      | ghost => simp [shOk] at h
      | off => simp [shOk] at h
    cases k with
    | succ k => simpa using shOk_at tail.1 k p (by simpa using hp)
    | zero =>
      simp only [List.getElem?_cons_zero, Option.some.injEq] at hp ⊢
      subst hp
      exact tail.2

theorem effOf_mem {o' : List E} {τ : List Nat} : ∀ {ps : List (Option O)} {hs : List Nat} {a : Nat} {q : O}, (a, q) ∈ effOf o' τ ps hs → ∃ (k : Nat) (o : O), ps[k]? = some (some o) ∧ hs[k]? = some a ∧ q = o.inst o' τ
  | [], _, a, q, h => by simp [effOf] at h
  | some o :: ps, [], a, q, h => by simp [effOf] at h
  | none :: ps, [], a, q, h => by simp [effOf] at h
  | some o :: ps, x :: hs, a, q, h => by
    simp only [effOf, List.mem_cons, Prod.mk.injEq] at h
    rcases h with ⟨rfl, rfl⟩ | h
    · exact ⟨0, o, rfl, rfl, rfl⟩
    · obtain ⟨k, o1, h1, h2, h3⟩ := effOf_mem h
      exact ⟨k + 1, o1, by simpa using h1, by simpa using h2, h3⟩
  | none :: ps, x :: hs, a, q, h => by
    simp only [effOf] at h
    obtain ⟨k, o1, h1, h2, h3⟩ := effOf_mem h
    exact ⟨k + 1, o1, by simpa using h1, by simpa using h2, h3⟩

theorem effOf_has {o' : List E} {τ : List Nat} : ∀ {ps : List (Option O)} {hs : List Nat} {k a : Nat} {o : O}, ps[k]? = some (some o) → hs[k]? = some a → (a, o.inst o' τ) ∈ effOf o' τ ps hs
  | [], _, k, a, o, h, _ => by simp at h
  | _ :: _, [], k, a, o, _, h => by simp at h
  | p :: ps, x :: hs, k, a, o, h1, h2 => by
    cases k with
    | zero =>
      simp only [List.getElem?_cons_zero, Option.some.injEq] at h1 h2
      subst h1 h2
      simp [effOf]
    | succ k =>
      have ih := effOf_has (o' := o') (τ := τ) (ps := ps) (hs := hs) (k := k) (a := a) (o := o) (by simpa using h1) (by simpa using h2)
      cases p with
      | none => simpa [effOf] using ih
      | some q => simp only [effOf, List.mem_cons]; exact .inr ih

theorem effNew_mem {o' : List E} {τ : List Nat} {fr : Nat} : ∀ {ns : List O} {j0 a : Nat} {q : O}, (a, q) ∈ effNew o' τ fr ns j0 → ∃ (j : Nat) (o : O), ns[j]? = some o ∧ a = fr + (j0 + j) ∧ q = o.inst o' τ
  | [], _, _, _, h => by simp [effNew] at h
  | n :: ns, j0, a, q, h => by
    simp only [effNew, List.mem_cons, Prod.mk.injEq] at h
    rcases h with ⟨rfl, rfl⟩ | h
    · exact ⟨0, n, rfl, by omega, rfl⟩
    · obtain ⟨j, o, h1, h2, h3⟩ := effNew_mem h
      exact ⟨j + 1, o, by simpa using h1, by omega, h3⟩

theorem effNew_has {o' : List E} {τ : List Nat} {fr : Nat} : ∀ {ns : List O} {j0 j : Nat} {o : O}, ns[j]? = some o → (fr + (j0 + j), o.inst o' τ) ∈ effNew o' τ fr ns j0
  | [], _, _, _, h => by simp at h
  | n :: ns, j0, j, o, h => by
    cases j with
    | zero =>
      simp only [List.getElem?_cons_zero, Option.some.injEq] at h
      subst h
      simp [effNew]
    | succ j =>
      have ih := effNew_has (o' := o') (τ := τ) (fr := fr) (ns := ns) (j0 := j0 + 1) (j := j) (o := o) (by simpa using h)
      simp only [effNew, List.mem_cons]
      right
      rw [show fr + (j0 + (j + 1)) = fr + (j0 + 1 + j) from by omega]
      exact ih

/-- The memory that a callee sees. -/
theorem sub_mem_call {θ : List E} {σ : List SH} {T : List O} {P : Program} (hpc : Holds I ρ pc) (m : Mem P I ρ η H S w0 w) (hs : subH true pc θ σ T H = true) :
    Mem P I (θ.map (E.den I ρ)) (viaEnv η σ T) T (ownS T (viaEnv η σ T)) w w ∧ (∀ b, ownS T (viaEnv η σ T) b → S b ∨ w0.heap.size ≤ b) := by
  have hlow : ∀ o o' : O, roFits true o.isRo o'.isRo = true → o.isRo = false → o'.isRo = false := fun o o' hf hr => roFits_false hf hr
  refine ⟨⟨fun h => sub_free hs, fun h o => sub_obj hpc m hs, ?_, ?_, sub_apart m hs hlow, Keeps.refl _ _⟩, ?_⟩
  · intro h o i ho hi hr hb
    obtain ⟨j, hj, hd⟩ := sub_obj hpc m hs ho
    rw [hi] at hj; simp only [Option.some.injEq] at hj; subst hj
    refine ⟨O.block_there hd hb, ?_⟩
    rintro ⟨h2, o2, i2, ho2, hi2, hr2, hb2, he⟩
    obtain ⟨a1, q1, j1, s1, l1, n1, e1, c1, f1⟩ := sub_target m hs ho hi hb
    obtain ⟨a2, q2, j2, s2, l2, n2, e2, c2, f2⟩ := sub_target m hs ho2 hi2 hb2
    have hq2 := hlow _ _ f2 hr2
    have hne : a1 ≠ a2 := by
      rintro rfl
      simp only [subH, Bool.and_eq_true] at hs
      have hh : h = h2 := by
        rcases s1 with s1 | s1 <;> rcases s2 with s2 | s2
        · exact distinct_ne (n := a1) hs.1.2 s1 s2 (.inl rfl) (.inl rfl)
        · exact distinct_ne (n := a1) hs.1.2 s1 s2 (.inl rfl) (.inr rfl)
        · exact distinct_ne (n := a1) hs.1.2 s1 s2 (.inr rfl) (.inl rfl)
        · exact distinct_ne (n := a1) hs.1.2 s1 s2 (.inr rfl) (.inr rfl)
      subst hh
      rw [ho] at ho2; simp only [Option.some.injEq] at ho2; subst ho2
      rw [hr] at hr2; simp at hr2
    have hblk : j1.blk = j2.blk := by rw [e1, e2, he]
    cases hq1 : q1.isRo with
    | false => exact m.apart a1 a2 q1 q2 j1 j2 hne l1 l2 n1 n2 hq1 hq2 c1 c2 hblk
    | true =>
      have h3 := m.old a1 q1 j1 l1 n1 hq1 c1
      rcases m.own a2 q2 j2 l2 n2 hq2 c2 with h4 | h4
      · exact h3.2 (hblk ▸ h4)
      · omega
  · intro h o i ho hi hr hb
    exact .inl ⟨h, o, i, ho, hi, hr, hb, rfl⟩
  · rintro b ⟨h, o, i, ho, hi, hr, hb, rfl⟩
    obtain ⟨a, q, j, _, l, n, e, c, f⟩ := sub_target m hs ho hi hb
    rw [← e]
    exact m.own a q j l n (hlow _ _ f hr) c

set_option maxHeartbeats 1000000 in
theorem ctrR_ok (hin : GlIn C.gl C.ng) {c : Ctr} (hc : c.Valid C I) (hpc : Holds I ρ pc) (m : Mem C.P I ρ η H S w0 w) (hg : GlOk C.gl η) {fr : Nat} (hfr : ∀ k, k < 4 → look H (fr + k) = none) {args : List V} {vs : Array Value}
    (ha : V.denL I ρ η args vs.toList) {r : AR} (h : ctrR C.ng pc H fr c args = .ok r) (hn : Holds I ρ r.needs) (cs : List Frame) :
    ∃ x w' η', RetsIn C.P c.fn vs w cs x w' ∧ η.le η' ∧ V.den I ρ η' r.v x ∧ Mem C.P I ρ η' (applyEff H r.eff) S w0 w' := by
  unfold ctrR at h
  simp only at h
  generalize mH H c.H 0 (mH H c.H 0 (mVL c.args args (M.start c.nv C.ng c.H.length))) = M at h
  generalize hθ : M.th' = θ at h
  generalize hσ : convSg c.H H M.sg 0 = σ at h
  split at h
  · rename_i hfit
    simp only [Bool.and_eq_true] at hfit
    obtain ⟨⟨hargs, hH⟩, hng⟩ := hfit
    split at h
    · rename_i hok
      simp only [Bool.and_eq_true, decide_eq_true_eq] at hok
      obtain ⟨⟨⟨⟨⟨hsh, hres⟩, hnew⟩, hpost⟩, hlen⟩, hn4⟩ := hok
      generalize hhs : (σ.map fun x => match x with | .to h => h | .conv h => h | _ => 0) = hs at h
      generalize hτ : hs ++ (List.range c.new.length).map (fr + ·) = τ at h
      generalize ho' : c.outs.map (E.subst θ) = o' at h
      obtain ⟨rv, re, _, hneed⟩ := okR_ok hpc h
      have hpre : Holds I (θ.map (E.den I ρ)) c.pre := by
        intro d hd
        have := hneed hn (d.subst θ) (List.mem_map_of_mem hd)
        rw [E.den_subst] at this
        exact this
      obtain ⟨mT, hS'⟩ := sub_mem_call hpc m hH
      have hgT : GlOk C.gl (viaEnv η σ c.H) := hg.same hin (fun k hk i hi => by rw [via_role hng hk]; exact hi)
      obtain ⟨x, w', ηT, hrets, hsame, hxd, hmF⟩ := hc.run _ _ w vs hpre hgT mT (subVL_ok hpc _ _ _ hargs ha) cs
      have houts : c.outs.map (E.den I (θ.map (E.den I ρ))) = o'.map (E.den I ρ) := by
        rw [← ho', List.map_map]
        apply List.map_congr_left
        intro e _
        simp [E.den_subst]
      rw [houts] at hxd hmF
      have hwf := hc.wf
      simp only [Ctr.wf, Bool.and_eq_true] at hwf
      obtain ⟨hwO, hnewp⟩ := hwf
      obtain ⟨hpl, hat⟩ := wfO_at hwO
      have hsl : hs.length = c.H.length := by rw [← hhs, List.length_map, hlen]
      -- the new environment
      have hfreeη : ∀ k, k < c.new.length → η (fr + k) = none := fun k hk => m.free _ (hfr k (by omega))
      let ηN : Env := fun h => if fr ≤ h ∧ h < fr + c.new.length then ηT (c.H.length + (h - fr)) else η h
      have hle : η.le ηN := by
        intro h i hi
        show (if fr ≤ h ∧ h < fr + c.new.length then ηT (c.H.length + (h - fr)) else η h) = some i
        split
        · rename_i hh
          have := hfreeη (h - fr) (by omega)
          rw [show fr + (h - fr) = h from by omega, hi] at this
          simp at this
        · exact hi
      have hNnew : ∀ j, j < c.new.length → ηN (fr + j) = ηT (c.H.length + j) := by
        intro j hj
        show (if fr ≤ fr + j ∧ fr + j < fr + c.new.length then ηT (c.H.length + (fr + j - fr)) else η (fr + j)) = _
        rw [if_pos (by omega), show fr + j - fr = j from by omega]
      have hτ1 : ∀ k a, hs[k]? = some a → τ.getD k 0 = a := by
        intro k a hk
        rw [← hτ, List.getD_eq_getElem?_getD, List.getElem?_append_left (List.getElem?_eq_some_iff.1 hk).1, hk]; rfl
      have hτ2 : ∀ j, j < c.new.length → τ.getD (c.H.length + j) 0 = fr + j := by
        intro j hj
        rw [← hτ, List.getD_eq_getElem?_getD, List.getElem?_append_right (by omega), hsl, show c.H.length + j - c.H.length = j from by omega]
        simp [hj]
      have hfin1 : ∀ (k : Nat) (o : O) (p : Option O), c.H[k]? = some o → c.post[k]? = some p → c.fin[k]? = some (finO o p) := by
        intro k o p h1 h2
        have hk := (List.getElem?_eq_some_iff.1 h1).1
        unfold Ctr.fin
        rw [List.getElem?_append_left (by simp; omega), List.getElem?_zipWith, h1, h2]
      have hfinl : (List.zipWith finO c.H c.post).length = c.H.length := by simp; omega
      have hfin2 : ∀ j, c.fin[c.H.length + j]? = c.new[j]? := by
        intro j
        unfold Ctr.fin
        rw [List.getElem?_append_right (by omega), hfinl, show c.H.length + j - c.H.length = j from by omega]
      have hσ_at : ∀ k, k < c.H.length → (∃ a : Nat, σ[k]? = some (SH.to a) ∧ hs[k]? = some a) ∨ (∃ a : Nat, σ[k]? = some (SH.conv a) ∧ hs[k]? = some a ∧ c.post[k]? = some none) := by
        intro k hk
        have hp : ∃ p, c.post[k]? = some p := ⟨c.post[k]'(by omega), List.getElem?_eq_getElem (by omega)⟩
        obtain ⟨p, hp⟩ := hp
        rcases shOk_at hsh k p hp with ⟨a, ha⟩ | ⟨a, ha, rfl⟩
        · exact .inl ⟨a, ha, by rw [← hhs, List.getElem?_map, ha]; rfl⟩
        · exact .inr ⟨a, ha, by rw [← hhs, List.getElem?_map, ha]; rfl, hp⟩
      have goes : Goes ηT ηN τ (isConv σ) := by
        intro k i hi
        by_cases hk : k < c.H.length
        · have hT : ∃ o, c.H[k]? = some o := ⟨_, List.getElem?_eq_getElem hk⟩
          obtain ⟨o, hT⟩ := hT
          have hlk := look_of hT (hat k o hT).1
          obtain ⟨i0, hi0, _⟩ := mT.obj k o hlk
          have := hsame k hk i0 hi0
          rw [hi] at this; simp only [Option.some.injEq] at this; subst this
          rcases hσ_at k hk with ⟨a, ha, hha⟩ | ⟨a, ha, hha, _⟩
          · rw [via_to ha] at hi0
            exact ⟨i, by rw [hτ1 k a hha]; exact hle _ _ hi0, rfl, rfl, rfl, fun _ => rfl⟩
          · have hη : ∃ j, η a = some j ∧ j.blk = i.blk ∧ j.sz = i.sz ∧ j.bs = i.bs := by
              simp only [viaEnv, ha] at hi0
              rw [Option.map_eq_some_iff] at hi0
              obtain ⟨j, hj, rfl⟩ := hi0
              exact ⟨j, hj, rfl, rfl, rfl⟩
            obtain ⟨j, hj, e1, e2, e3⟩ := hη
            exact ⟨j, by rw [hτ1 k a hha]; exact hle _ _ hj, e1, e2, e3, fun hcv => by simp [isConv, ha] at hcv⟩
        · have hkl : k = c.H.length + (k - c.H.length) := by omega
          by_cases hj : k - c.H.length < c.new.length
          · rw [hkl] at hi ⊢
            exact ⟨i, by rw [hτ2 _ hj, hNnew _ hj]; exact hi, rfl, rfl, rfl, fun _ => rfl⟩
          · have : look c.fin k = none := by
              apply look_none_of
              rw [hkl, hfin2, List.getElem?_eq_none_iff]; omega
            rw [hmF.free k this] at hi; simp at hi
      have hcvnew : ∀ j, isConv σ (c.H.length + j) = false := by
        intro j
        have : σ[c.H.length + j]? = none := List.getElem?_eq_none (by omega)
        simp [isConv, this]
      -- each object that is laid
      have entry : ∀ (a : Nat) (q : O), (a, q) ∈ r.eff → ∃ (kT : Nat) (oT : O), look c.fin kT = some oT ∧ oT.plain = true ∧ oT.ptrOk (isConv σ) = true ∧ q = oT.inst o' τ ∧ τ.getD kT 0 = a ∧ isConv σ kT = false ∧
          ((∃ j, kT = c.H.length + j ∧ j < c.new.length) ∨ (∃ o : O, c.H[kT]? = some o ∧ o.isRo = false ∧ hs[kT]? = some a ∧ σ[kT]? = some (SH.to a))) := by
        intro a q hq
        rw [re, List.mem_append] at hq
        rcases hq with hq | hq
        · obtain ⟨k, o, h1, h2, h3⟩ := effOf_mem hq
          have hk : k < c.H.length := by have := (List.getElem?_eq_some_iff.1 h1).1; omega
          have hT : ∃ t, c.H[k]? = some t := ⟨_, List.getElem?_eq_getElem hk⟩
          obtain ⟨t, hT⟩ := hT
          obtain ⟨hnf, hcase⟩ := hat k t hT
          rcases hcase with ⟨q', hq', hro, hpl'⟩ | ⟨hq', _⟩
          · rw [h1] at hq'; simp only [Option.some.injEq] at hq'; subst hq'
            have hf := hfin1 k t (some o) hT h1
            have hfo : finO t (some o) = o := by cases t <;> first | rfl | exact (hnf rfl).elim
            rw [hfo] at hf
            have hptr : o.ptrOk (isConv σ) = true := by
              have := List.all_eq_true.1 hpost (some o) (List.mem_of_getElem? h1)
              simpa using this
            rcases hσ_at k hk with ⟨b, hb, hhb⟩ | ⟨b, hb, hhb, hpn⟩
            · rw [h2] at hhb; simp only [Option.some.injEq] at hhb; subst hhb
              refine ⟨k, o, look_of hf (by rintro rfl; simp [O.plain] at hpl'), hpl', hptr, h3, hτ1 k a h2, by simp [isConv, hb], .inr ⟨t, hT, hro, h2, hb⟩⟩
            · rw [h1] at hpn; simp at hpn
          · rw [h1] at hq'; simp at hq'
        · obtain ⟨j, o, h1, h2, h3⟩ := effNew_mem hq
          have hj := (List.getElem?_eq_some_iff.1 h1).1
          have hpl' := List.all_eq_true.1 hnewp o (List.mem_of_getElem? h1)
          have hptr := List.all_eq_true.1 hnew o (List.mem_of_getElem? h1)
          refine ⟨c.H.length + j, o, look_of (by rw [hfin2]; exact h1) (by rintro rfl; simp [O.plain] at hpl'), hpl', hptr, h3, by rw [hτ2 j hj, h2]; omega, hcvnew j, .inl ⟨j, rfl, hj⟩⟩
      have obj : ∀ (a : Nat) (q : O), (a, q) ∈ r.eff → ∃ (kT : Nat) (oT : O) (i : Info), look c.fin kT = some oT ∧ ηT kT = some i ∧ oT.isRo = false ∧ τ.getD kT 0 = a ∧ ηN a = some i ∧ q.den C.P I ρ ηN i w'.heap[i.blk]? ∧ q.isRo = false ∧ (q.hasBlk i → oT.hasBlk i) ∧ q ≠ .free := by
        intro a q hq
        obtain ⟨kT, oT, h1, h2, h3, h4, h5, h6, _⟩ := entry a q hq
        obtain ⟨i, hi, hd⟩ := hmF.obj kT oT h1
        obtain ⟨g1, g2, g3, g4, g5⟩ := instO_ok (τ := τ) goes h2 h3 hd
        obtain ⟨j, hj, _, _, _, hjj⟩ := goes kT i hi
        have := hjj h6
        subst this
        rw [h5] at hj
        subst h4
        exact ⟨kT, oT, j, h1, hi, g5, h5, hj, g1, g2, g3, g4⟩
      have hnf : ∀ e ∈ r.eff, e.2 ≠ .free := by
        rintro ⟨a, q⟩ he
        obtain ⟨_, _, _, _, _, _, _, _, _, _, _, hq⟩ := obj a q he
        exact hq
      have hlook := fun h => look_applyEff r.eff H h hnf
      refine ⟨x, w', ηN, hrets, hle, ?_, ?_⟩
      · rw [rv]; exact inst_ok goes _ _ hres hxd
      · refine m.frame hmF.keeps hS' (fun h => lastW r.eff h ≠ none) hle ?_ ?_ ?_ ?_ ?_
        · intro h hu
          simp only [ne_eq, Classical.not_not] at hu
          rw [hlook, hu]
        · intro h hl
          rw [hlook] at hl
          split at hl
          · simp at hl
          · rename_i hl'
            show (if fr ≤ h ∧ h < fr + c.new.length then ηT (c.H.length + (h - fr)) else η h) = none
            split
            · rename_i hh
              have hj : h - fr < c.new.length := by omega
              have hm := effNew_has (o' := o') (τ := τ) (fr := fr) (j0 := 0) (List.getElem?_eq_getElem hj)
              rw [show fr + (0 + (h - fr)) = h from by omega] at hm
              have hcon := lastW_none hl' (O.inst o' τ c.new[h - fr])
              rw [re] at hcon
              exact (hcon (List.mem_append_right _ hm)).elim
            · exact m.free h hl
        · intro h o i hu hl hi hb
          simp only [ne_eq, Classical.not_not] at hu
          rintro ⟨k, t, ik, hk, hik, hrok, hbk, hbe⟩
          obtain ⟨hTk, _⟩ := look_some hk
          have hkl := (List.getElem?_eq_some_iff.1 hTk).1
          obtain ⟨a, q, j, hsa, hla, hja, hje, hqb, hf⟩ := sub_target m hH hk hik hbk
          have hqro := roFits_false hf hrok
          have hpk : ∃ p, c.post[k]? = some (some p) := by
            rcases (hat k t hTk).2 with ⟨q, hq, _⟩ | ⟨_, hq | hq⟩
            · exact ⟨q, hq⟩
            · rw [hq] at hrok; simp at hrok
            · subst hq; exact hbk.elim
          obtain ⟨p, hp⟩ := hpk
          have hsk : hs[k]? = some a := by
            rw [← hhs, List.getElem?_map]
            rcases hsa with hsa | hsa <;> rw [hsa] <;> rfl
          have hm := effOf_has (o' := o') (τ := τ) hp hsk
          have hne : h ≠ a := by
            rintro rfl
            have hcon := lastW_none hu (O.inst o' τ p)
            rw [re] at hcon
            exact hcon (List.mem_append_left _ hm)
          rw [← hje] at hbe
          cases hro : o.isRo with
          | false => exact m.apart h a o q i j hne hl hla hi hja hro hqro hb hqb hbe.symm
          | true =>
            have h3 := m.old h o i hl hi hro hb
            rcases m.own a q j hla hja hqro hqb with h4 | h4
            · exact h3.2 (hbe ▸ h4)
            · omega
        · intro h o hu hl
          rw [hlook] at hl
          split at hl
          · rename_i q hq
            simp only [Option.some.injEq] at hl; subst hl
            obtain ⟨kT, oT, i, h1, h2, h3, h4, h5, h6, h7, h8, _⟩ := obj h q (lastW_mem hq)
            exact ⟨h7, i, h5, h6, fun hb => hmF.own kT oT i h1 h2 h3 (h8 hb)⟩
          · rename_i hq; exact (hu hq).elim
        · intro h h' o q i i' hne hu hu' hl hl' hi hi' hb hb'
          rw [hlook] at hl hl'
          split at hl
          · rename_i q1 hq1
            simp only [Option.some.injEq] at hl; subst hl
            split at hl'
            · rename_i q2 hq2
              simp only [Option.some.injEq] at hl'; subst hl'
              obtain ⟨kT, oT, j, h1, h2, h3, h4, h5, h6, h7, h8, _⟩ := obj h q1 (lastW_mem hq1)
              obtain ⟨kT', oT', j', h1', h2', h3', h4', h5', h6', h7', h8', _⟩ := obj h' q2 (lastW_mem hq2)
              rw [h5] at hi; simp only [Option.some.injEq] at hi; subst hi
              rw [h5'] at hi'; simp only [Option.some.injEq] at hi'; subst hi'
              have hk : kT ≠ kT' := by
                rintro rfl
                exact hne (h4.symm.trans h4')
              exact hmF.apart kT kT' oT oT' j j' hk h1 h1' h2 h2' h3 h3' (h8 hb) (h8' hb')
            · rename_i hq; exact (hu' hq).elim
          · rename_i hq; exact (hu hq).elim
    · simp at h
  · simp at h

/-- Contracts that hold may be used. -/
theorem ctrs_ok (hin : GlIn C.gl C.ng) (hall : ∀ c ∈ C.ctrs, c.Valid C I) : CtrOk C I := by
  intro ρ pc η H S w0 w h f args vs r hpc m hg hfr ha hr hn
  have main : ∀ cs : List Ctr, (∀ c ∈ cs, c ∈ C.ctrs) → ctrsR C.ng pc H h f args cs = .ok r → ∃ c ∈ C.ctrs, c.fn = f ∧ ctrR C.ng pc H h c args = .ok r := by
    intro cs
    induction cs with
    | nil => intro _ hh; simp [ctrsR] at hh
    | cons c cs ih =>
      intro hsub hh
      unfold ctrsR at hh
      split at hh
      · rename_i hf
        split at hh
        · rename_i r' hr'
          simp only [Res.ok.injEq] at hh; subst hh
          exact ⟨c, hsub c (List.mem_cons_self ..), hf, hr'⟩
        · exact ih (fun d hd => hsub d (List.mem_cons_of_mem _ hd)) hh
      · exact ih (fun d hd => hsub d (List.mem_cons_of_mem _ hd)) hh
  obtain ⟨c, hc, rfl, hcr⟩ := main C.ctrs (fun _ h => h) hr
  exact ⟨(hall c hc).has, fun cs => ctrR_ok hin (hall c hc) hpc m hg hfr ha hcr hn cs⟩

end
end Go.Sx

/- The symbolic executor, part Z: an operation that leans on a part of memory. -/
namespace Go.Sx
open Go

/-- An environment of some handles alone. -/
def Env.only (η : Env) (ok : Nat → Bool) : Env := fun h => if ok h then η h else none
theorem Env.only_ok {η : Env} {ok : Nat → Bool} {h : Nat} (hh : ok h = true) : (η.only ok) h = η h := by simp [Env.only, hh]
theorem Env.only_no {η : Env} {ok : Nat → Bool} {h : Nat} (hh : ok h = false) : (η.only ok) h = none := by simp [Env.only, hh]

section
variable {P : Program} {I : Itp} {ρ : List U} {pc : List E} {η : Env} {H : List O} {S : Nat → Prop} {w0 w w' : World} {ok : Nat → Bool}

mutual
theorem within_ok : ∀ (v : V) (x : Value), v.within ok = true → V.den I ρ η v x → V.den I ρ (η.only ok) v x
  | .junk, _, _, _ => trivial
  | .int k e, x, _, h => by simpa only [V.den] using h
  | .bool e, x, _, h => by simpa only [V.den] using h
  | .ptr h0 r c, x, hw, hd => by
    simp only [V.within] at hw
    simp only [V.den, Env.only_ok hw] at hd ⊢
    exact hd
  | .nilp, x, _, h => by simpa only [V.den] using h
  | .slice h0 w o n cap, x, hw, hd => by
    simp only [V.within] at hw
    simp only [V.den, Env.only_ok hw] at hd ⊢
    exact hd
  | .nils, x, _, h => by simpa only [V.den] using h
  | .func f cs, x, hw, hd => by
    simp only [V.within] at hw
    simp only [V.den] at hd ⊢
    obtain ⟨xs, hx, hc⟩ := hd
    exact ⟨xs, hx, withinL_ok cs _ hw hc⟩
  | .nilf, x, _, h => by simpa only [V.den] using h
  | .yld h0, x, hw, hd => by
    simp only [V.within] at hw
    simp only [V.den, Env.only_ok hw] at hd ⊢
    exact hd
  | .map h0, x, hw, hd => by
    simp only [V.within] at hw
    simp only [V.den, Env.only_ok hw] at hd ⊢
    exact hd
  | .nilm, x, _, h => by simpa only [V.den] using h
  | .agg cs, x, hw, hd => by
    simp only [V.within] at hw
    simp only [V.den] at hd ⊢
    obtain ⟨xs, hx, hc⟩ := hd
    exact ⟨xs, hx, withinL_ok cs _ hw hc⟩
  | .tup cs, x, hw, hd => by
    simp only [V.within] at hw
    simp only [V.den] at hd ⊢
    obtain ⟨xs, hx, hc⟩ := hd
    exact ⟨xs, hx, withinL_ok cs _ hw hc⟩
theorem withinL_ok : ∀ (vs : List V) (xs : List Value), V.withinL ok vs = true → V.denL I ρ η vs xs → V.denL I ρ (η.only ok) vs xs
  | [], xs, _, h => by simpa only [V.denL] using h
  | v :: vs, xs, hw, h => by
    simp only [V.withinL, Bool.and_eq_true] at hw
    simp only [V.denL] at h ⊢
    obtain ⟨y, ys, hx, hy, hys⟩ := h
    exact ⟨y, ys, hx, within_ok v y hw.1 hy, withinL_ok vs ys hw.2 hys⟩
end

theorem withinO_ok {o : O} (hw : o.within ok = true) {i : Info} {x : Option Obj} (hd : o.den P I ρ η i x) : o.den P I ρ (η.only ok) i x := by
  cases o with
  | free => exact hd
  | dead => trivial
  | cells ro cs =>
    obtain ⟨hbs, c, ty, fz, hx, h1, h2, h3, h4⟩ := hd
    exact ⟨hbs, c, ty, fz, hx, h1, h2, h3, withinL_ok cs _ hw h4⟩
  | rows ro ks A => exact hd
  | loop l =>
    simp only [O.within, Bool.and_eq_true] at hw
    obtain ⟨tm, prm, f, asg, bd, d, hx, h1, h2, h3⟩ := hd
    exact ⟨tm, prm, f, asg, bd, d, hx, withinL_ok _ _ hw.1 h1, h2, by rw [Env.only_ok hw.2]; exact h3⟩
  | defd => exact hd
  | amap ks vs ka va A => exact hd
  | iter m since seen stepped =>
    cases m with
    | none => exact hd
    | some k =>
      obtain ⟨j, hj, hx⟩ := hd
      exact ⟨j, by rw [Env.only_ok hw]; exact hj, hx⟩

/-- Memory is what is looked at. -/
theorem Mem.congrL {H H' : List O} (m : Mem P I ρ η H S w0 w) (h : ∀ k, look H' k = look H k) : Mem P I ρ η H' S w0 w :=
  ⟨fun k hk => m.free k (by rw [← h]; exact hk), fun k o hk => m.obj k o (by rw [← h]; exact hk), fun k o i hk => m.old k o i (by rw [← h]; exact hk), fun k o i hk => m.own k o i (by rw [← h]; exact hk),
    fun k k' o o' i i' hne hk hk' => m.apart k k' o o' i i' hne (by rw [← h]; exact hk) (by rw [← h]; exact hk'), m.keeps⟩

/-- Two objects of one memory, one of which may be written, lie apart. -/
theorem Mem.away (m : Mem P I ρ η H S w0 w) {h h' : Nat} {o o' : O} {i i' : Info} (hne : h ≠ h') (hl : look H h = some o) (hl' : look H h' = some o') (hi : η h = some i) (hi' : η h' = some i') (hr' : o'.isRo = false) (hb : o.hasBlk i) (hb' : o'.hasBlk i') : i.blk ≠ i'.blk := by
  cases hr : o.isRo with
  | false => exact m.apart h h' o o' i i' hne hl hl' hi hi' hr hr' hb hb'
  | true =>
    intro e
    have h3 := m.old h o i hl hi hr hb
    rcases m.own h' o' i' hl' hi' hr' hb' with h4 | h4
    · exact h3.2 (e ▸ h4)
    · omega

/-- THE PART OF MEMORY THAT AN OPERATION LEANS ON. -/
theorem Mem.part (m : Mem P I ρ η H S w0 w) {rd : Nat → Bool} {M : List O} (hM : ∀ h, look M h = if ok h then (if rd h then look H h else some .dead) else none)
    (hlive : ∀ h, ok h = true → look H h ≠ none) (hwit : ∀ h o, ok h = true → rd h = true → look H h = some o → o.within ok = true) :
    Mem P I ρ (η.only ok) M (ownS M (η.only ok)) w w := by
  -- an object of the part is the object of the whole, or is given up
  have at_ : ∀ h o, look M h = some o → ok h = true ∧ ((rd h = true ∧ look H h = some o) ∨ o = .dead) := by
    intro h o hl
    rw [hM] at hl
    by_cases hk : ok h = true
    · rw [if_pos hk] at hl
      by_cases hr : rd h = true
      · rw [if_pos hr] at hl; exact ⟨hk, .inl ⟨hr, hl⟩⟩
      · rw [if_neg hr] at hl; simp only [Option.some.injEq] at hl; exact ⟨hk, .inr hl.symm⟩
    · rw [if_neg hk] at hl; simp at hl
  refine ⟨?_, ?_, ?_, ?_, ?_, Keeps.refl _ _⟩
  · intro h hl
    rw [hM] at hl
    by_cases hk : ok h = true
    · rw [if_pos hk] at hl
      by_cases hr : rd h = true
      · rw [if_pos hr] at hl; exact (hlive h hk hl).elim
      · rw [if_neg hr] at hl; simp at hl
    · exact Env.only_no (by simpa using hk)
  · intro h o hl
    obtain ⟨hk, hcase⟩ := at_ h o hl
    rcases hcase with ⟨hr, hl'⟩ | rfl
    · obtain ⟨i, hi, hd⟩ := m.obj h o hl'
      exact ⟨i, by rw [Env.only_ok hk]; exact hi, withinO_ok (hwit h o hk hr hl') hd⟩
    · cases hl' : look H h with
      | none => exact (hlive h hk hl').elim
      | some q =>
        obtain ⟨i, hi, _⟩ := m.obj h q hl'
        exact ⟨i, by rw [Env.only_ok hk]; exact hi, trivial⟩
  · intro h o i hl hi hro hb
    obtain ⟨hk, hcase⟩ := at_ h o hl
    rcases hcase with ⟨hr, hl'⟩ | rfl
    · rw [Env.only_ok hk] at hi
      obtain ⟨j, hj, hd⟩ := m.obj h o hl'
      rw [hi] at hj; simp only [Option.some.injEq] at hj; subst hj
      refine ⟨O.block_there hd hb, ?_⟩
      rintro ⟨h2, o2, i2, hl2, hi2, hr2, hb2, he⟩
      obtain ⟨hk2, hcase2⟩ := at_ h2 o2 hl2
      rcases hcase2 with ⟨_, hl2'⟩ | rfl
      · rw [Env.only_ok hk2] at hi2
        have hne : h ≠ h2 := by
          rintro rfl
          rw [hl'] at hl2'; simp only [Option.some.injEq] at hl2'; subst hl2'
          rw [hro] at hr2; simp at hr2
        exact m.away hne hl' hl2' hi hi2 hr2 hb hb2 he.symm
      · exact hb2.elim
    · exact hb.elim
  · intro h o i hl hi hro hb
    exact .inl ⟨h, o, i, hl, hi, hro, hb, rfl⟩
  · intro h h' o o' i i' hne hl hl' hi hi' hr hr' hb hb'
    obtain ⟨hk, hcase⟩ := at_ h o hl
    obtain ⟨hk', hcase'⟩ := at_ h' o' hl'
    rcases hcase with ⟨_, h1⟩ | rfl
    · rcases hcase' with ⟨_, h2⟩ | rfl
      · rw [Env.only_ok hk] at hi
        rw [Env.only_ok hk'] at hi'
        exact m.apart h h' o o' i i' hne h1 h2 hi hi' hr hr' hb hb'
      · exact hb'.elim
    · exact hb.elim

/-- WHAT THE OPERATION HAS DONE TO THE PART, IT HAS DONE TO THE WHOLE. -/
theorem Mem.whole (m : Mem P I ρ η H S w0 w) {rd : Nat → Bool} {M : List O} (hM : ∀ h, look M h = if ok h then (if rd h then look H h else some .dead) else none)
    (hlive : ∀ h, ok h = true → look H h ≠ none) {reg : Nat → Bool} (hreg : ∀ h, reg h = true → ok h = false ∧ look H h = none)
    {eff : List (Nat × O)} (heff : ∀ h o, (h, o) ∈ eff → o.isRo = false ∧ o ≠ .free ∧ ((ok h = true ∧ rd h = true) ∨ reg h = true))
    {ηr : Env} (hle : (η.only ok).le ηr) (mr : Mem P I ρ ηr (applyEff M eff) (ownS M (η.only ok)) w w') :
    ∃ η', η.le η' ∧ ηr.le η' ∧ (∀ h, reg h = false → η' h = η h) ∧ Mem P I ρ η' (applyEff H eff) S w0 w' := by
  have hnf : ∀ e ∈ eff, e.2 ≠ .free := fun e he => (heff e.1 e.2 he).2.1
  have hlM := fun h => look_applyEff eff M h hnf
  have hlH := fun h => look_applyEff eff H h hnf
  let η' : Env := fun h => if reg h then ηr h else η h
  have e1 : ∀ h, reg h = true → η' h = ηr h := fun h hh => by show (if reg h then ηr h else η h) = _; rw [if_pos hh]
  have e2 : ∀ h, reg h = false → η' h = η h := fun h hh => by show (if reg h then ηr h else η h) = _; rw [if_neg (by simp [hh])]
  have hA : η.le η' := by
    intro h i hi
    cases hr : reg h with
    | true =>
      have := m.free h (hreg h hr).2
      rw [hi] at this; simp at this
    | false => rw [e2 h hr]; exact hi
  -- what the operation's own environment knows is known
  have hB : ηr.le η' := by
    intro h i hi
    cases hr : reg h with
    | true => rw [e1 h hr]; exact hi
    | false =>
      rw [e2 h hr]
      have hne : look (applyEff M eff) h ≠ none := fun hn => by rw [mr.free h hn] at hi; simp at hi
      have hok : ok h = true := by
        rw [hlM] at hne
        cases hw : lastW eff h with
        | some q =>
          rcases (heff h q (lastW_mem hw)).2.2 with h1 | h1
          · exact h1.1
          · rw [hr] at h1; simp at h1
        | none =>
          rw [hw, hM] at hne
          by_cases hk : ok h = true
          · exact hk
          · simp [hk] at hne
      cases hl : look H h with
      | none => exact (hlive h hok hl).elim
      | some q =>
        obtain ⟨j, hj, _⟩ := m.obj h q hl
        have := hle h j (by rw [Env.only_ok hok]; exact hj)
        rw [hi] at this; simp only [Option.some.injEq] at this; subst this
        exact hj
  refine ⟨η', hA, hB, e2, ?_⟩
  have hS' : ∀ b, ownS M (η.only ok) b → S b ∨ w0.heap.size ≤ b := by
    rintro b ⟨h, o, i, hl, hi, hr, hb, rfl⟩
    rw [hM] at hl
    by_cases hk : ok h = true
    · rw [if_pos hk] at hl
      by_cases hrd : rd h = true
      · rw [if_pos hrd] at hl
        rw [Env.only_ok hk] at hi
        exact m.own h o i hl hi hr hb
      · rw [if_neg hrd] at hl; simp only [Option.some.injEq] at hl; subst hl; exact hb.elim
    · rw [if_neg hk] at hl; simp at hl
  -- what has turned, or may have been written
  have unlaid : ∀ h, lastW eff h = none → ∀ o, ok h = true → rd h = true → look H h = some o → look (applyEff M eff) h = some o := by
    intro h hw o hk hr hl
    rw [hlM, hw, hM, if_pos hk, if_pos hr]; exact hl
  refine m.frame mr.keeps hS' (fun h => lastW eff h ≠ none ∨ (ok h = true ∧ rd h = true ∧ ∃ o, look H h = some o ∧ o.isRo = false)) hA ?_ ?_ ?_ ?_ ?_
  · intro h hu
    simp only [not_or, ne_eq, Classical.not_not] at hu
    rw [hlH, hu.1]
  · intro h hl
    rw [hlH] at hl
    cases hw : lastW eff h with
    | some q => rw [hw] at hl; simp at hl
    | none =>
      rw [hw] at hl
      simp only at hl
      cases hr : reg h with
      | true =>
        rw [e1 h hr]
        refine mr.free h ?_
        rw [hlM, hw, hM]
        simp [(hreg h hr).1]
      | false => rw [e2 h hr]; exact m.free h hl
  · intro h o i hu hl hi hb
    simp only [not_or, ne_eq, Classical.not_not] at hu
    rintro ⟨h2, o2, i2, hl2, hi2, hr2, hb2, he⟩
    rw [hM] at hl2
    by_cases hk : ok h2 = true
    · rw [if_pos hk] at hl2
      by_cases hrd : rd h2 = true
      · rw [if_pos hrd] at hl2
        rw [Env.only_ok hk] at hi2
        have hne : h ≠ h2 := by
          rintro rfl
          exact hu.2 ⟨hk, hrd, o2, hl2, hr2⟩
        exact m.away hne hl hl2 hi hi2 hr2 hb hb2 he.symm
      · rw [if_neg hrd] at hl2; simp only [Option.some.injEq] at hl2; subst hl2; exact hb2.elim
    · rw [if_neg hk] at hl2; simp at hl2
  · intro h o hu hl
    have hMl : look (applyEff M eff) h = some o ∧ o.isRo = false := by
      rw [hlH] at hl
      cases hw : lastW eff h with
      | some q =>
        rw [hw] at hl; simp only [Option.some.injEq] at hl; subst hl
        exact ⟨by rw [hlM, hw], (heff h q (lastW_mem hw)).1⟩
      | none =>
        rw [hw] at hl
        simp only at hl
        rcases hu with hu | ⟨hk, hr, q, hq, hro⟩
        · exact (hu hw).elim
        · rw [hl] at hq; simp only [Option.some.injEq] at hq; subst hq
          exact ⟨unlaid h hw o hk hr hl, hro⟩
    obtain ⟨i, hi, hd⟩ := mr.obj h o hMl.1
    exact ⟨hMl.2, i, hB h i hi, O.den_mono hB hd, fun hb => mr.own h o i hMl.1 hi hMl.2 hb⟩
  · intro h h' o o' i i' hne hu hu' hl hl' hi hi' hb hb'
    have key : ∀ h o i, (lastW eff h ≠ none ∨ (ok h = true ∧ rd h = true ∧ ∃ o, look H h = some o ∧ o.isRo = false)) → look (applyEff H eff) h = some o → η' h = some i → look (applyEff M eff) h = some o ∧ ηr h = some i ∧ o.isRo = false := by
      intro h o i hu hl hi
      have hMl : look (applyEff M eff) h = some o ∧ o.isRo = false := by
        rw [hlH] at hl
        cases hw : lastW eff h with
        | some q =>
          rw [hw] at hl; simp only [Option.some.injEq] at hl; subst hl
          exact ⟨by rw [hlM, hw], (heff h q (lastW_mem hw)).1⟩
        | none =>
          rw [hw] at hl
          simp only at hl
          rcases hu with hu | ⟨hk, hr, q, hq, hro⟩
          · exact (hu hw).elim
          · rw [hl] at hq; simp only [Option.some.injEq] at hq; subst hq
            exact ⟨unlaid h hw o hk hr hl, hro⟩
      obtain ⟨j, hj, _⟩ := mr.obj h o hMl.1
      have := hB h j hj
      rw [hi] at this; simp only [Option.some.injEq] at this; subst this
      exact ⟨hMl.1, hj, hMl.2⟩
    obtain ⟨a1, a2, a3⟩ := key h o i hu hl hi
    obtain ⟨b1, b2, b3⟩ := key h' o' i' hu' hl' hi'
    exact mr.apart h h' o o' i i' hne a1 b1 a2 b2 a3 b3 hb hb'

end
end Go.Sx

/- The symbolic executor, part Za: what a drawn region has done when a set of its operations has run. -/
namespace Go.Sx
open Go

section
variable {α : Type}

/-- The last entry of a list at a key. -/
def lastA : List (Nat × α) → Nat → Option α
  | [], _ => none
  | (k, a) :: l, h => match lastA l h with
    | some b => some b
    | none => if k = h then some a else none

theorem lastA_append : ∀ (a b : List (Nat × α)) (h : Nat), lastA (a ++ b) h = match lastA b h with | some x => some x | none => lastA a h
  | [], b, h => by simp only [List.nil_append, lastA]; cases lastA b h <;> rfl
  | (k, x) :: a, b, h => by
    simp only [List.cons_append, lastA, lastA_append a b h]
    cases lastA b h with
    | some y => rfl
    | none => rfl

theorem lastA_no : ∀ {l : List (Nat × α)} {h : Nat}, (∀ a, (h, a) ∉ l) → lastA l h = none
  | [], _, _ => rfl
  | (k, x) :: l, h, hn => by
    simp only [lastA]
    rw [lastA_no (fun a ha => hn a (List.mem_cons_of_mem _ ha))]
    simp only
    rw [if_neg]
    rintro rfl
    exact hn x (List.mem_cons_self ..)

theorem lastA_some : ∀ {l : List (Nat × α)} {h : Nat} {a : α}, (h, a) ∈ l → lastA l h ≠ none
  | [], _, _, hm => by simp at hm
  | (k, x) :: l, h, a, hm => by
    simp only [lastA]
    cases hl : lastA l h with
    | some b => simp
    | none =>
      simp only [List.mem_cons, Prod.mk.injEq] at hm
      rcases hm with ⟨rfl, rfl⟩ | hm
      · simp
      · exact (lastA_some hm hl).elim

theorem lastA_mem : ∀ {l : List (Nat × α)} {h : Nat} {a : α}, lastA l h = some a → (h, a) ∈ l
  | [], _, _, hh => by simp [lastA] at hh
  | (k, x) :: l, h, a, hh => by
    simp only [lastA] at hh
    cases hl : lastA l h with
    | some b =>
      rw [hl] at hh
      simp only [Option.some.injEq] at hh; subst hh
      exact List.mem_cons_of_mem _ (lastA_mem hl)
    | none =>
      rw [hl] at hh
      simp only at hh
      split at hh
      · rename_i he
        simp only [Option.some.injEq] at hh; subst hh; subst he
        exact List.mem_cons_self ..
      · simp at hh

theorem lastW_eq : ∀ (l : List (Nat × O)) (h : Nat), lastW l h = lastA l h
  | [], _ => rfl
  | (k, x) :: l, h => by simp only [lastW, lastA, lastW_eq l h]; cases lastA l h <;> rfl

/-- What the operations of a set lay, in the text's order. -/
def pickR' (f : Rec → List (Nat × α)) (D : Nat → Bool) : List Rec → Nat → List (Nat × α)
  | [], _ => []
  | r :: rs, i => (if D i then f r else []) ++ pickR' f D rs (i + 1)

theorem pick_mem {f : Rec → List (Nat × α)} {D : Nat → Bool} : ∀ {recs : List Rec} {i : Nat} {x : Nat × α}, x ∈ pickR' f D recs i ↔ ∃ k r, recs[k]? = some r ∧ D (i + k) = true ∧ x ∈ f r
  | [], i, x => by simp [pickR']
  | r :: rs, i, x => by
    simp only [pickR', List.mem_append, pick_mem (recs := rs)]
    constructor
    · rintro (h | ⟨k, q, h1, h2, h3⟩)
      · by_cases hD : D i = true
        · rw [if_pos hD] at h; exact ⟨0, r, rfl, hD, h⟩
        · rw [if_neg hD] at h; simp at h
      · exact ⟨k + 1, q, by simpa using h1, by rw [show i + (k + 1) = i + 1 + k from by omega]; exact h2, h3⟩
    · rintro ⟨k, q, h1, h2, h3⟩
      cases k with
      | zero =>
        simp only [List.getElem?_cons_zero, Option.some.injEq] at h1
        subst h1
        rw [Nat.add_zero] at h2
        exact .inl (by rw [if_pos h2]; exact h3)
      | succ k => exact .inr ⟨k, q, by simpa using h1, by rw [show i + 1 + k = i + (k + 1) from by omega]; exact h2, h3⟩

/-- Two sets that differ in operations that leave a key alone. -/
theorem pick_agree {f : Rec → List (Nat × α)} {D D' : Nat → Bool} {h : Nat} : ∀ (recs : List Rec) (i : Nat), (∀ k r, recs[k]? = some r → D (i + k) ≠ D' (i + k) → ∀ a, (h, a) ∉ f r) →
    lastA (pickR' f D recs i) h = lastA (pickR' f D' recs i) h
  | [], _, _ => rfl
  | r :: rs, i, hh => by
    simp only [pickR', lastA_append]
    rw [pick_agree rs (i + 1) (fun k q hk hne => hh (k + 1) q (by simpa using hk) (by rw [show i + (k + 1) = i + 1 + k from by omega]; exact hne))]
    have e : lastA (if D i then f r else []) h = lastA (if D' i then f r else []) h := by
      by_cases hd : D i = D' i
      · rw [hd]
      · have hno := lastA_no (hh 0 r rfl (by simpa using hd))
        have hd2 : D' i = !D i := by cases h1 : D i <;> cases h2 : D' i <;> simp_all
        rw [hd2]
        cases D i
        · simp only [Bool.not_false, if_true, Bool.false_eq_true, if_false, hno]; rfl
        · simp only [Bool.not_true, if_true, Bool.false_eq_true, if_false, hno]; rfl
    rw [e]

/-- One operation more. -/
theorem pick_insert {f : Rec → List (Nat × α)} {D : Nat → Bool} {h : Nat} : ∀ (recs : List Rec) (i k : Nat) (r : Rec), recs[k]? = some r → D (i + k) = false →
    (∀ k' r', recs[k']? = some r' → k < k' → D (i + k') = true → ∀ a, (h, a) ∈ f r → ∀ b, (h, b) ∉ f r') →
    lastA (pickR' f (fun j => D j || decide (j = i + k)) recs i) h = match lastA (f r) h with | some a => some a | none => lastA (pickR' f D recs i) h
  | [], _, _, _, hk, _, _ => by simp at hk
  | q :: rs, i, k, r, hk, hD, hap => by
    cases k with
    | zero =>
      simp only [List.getElem?_cons_zero, Option.some.injEq] at hk
      subst hk
      have e : lastA (pickR' f (fun j => D j || decide (j = i + 0)) rs (i + 1)) h = lastA (pickR' f D rs (i + 1)) h := by
        refine pick_agree rs (i + 1) (fun k q _ hne => ?_)
        exfalso; apply hne
        have : ¬ (i + 1 + k = i) := by omega
        simp [this]
      simp only [pickR', lastA_append, e]
      have hi : (D i || decide (i = i + 0)) = true := by simp
      rw [if_pos hi]
      rw [Nat.add_zero] at hD
      rw [if_neg (by simp [hD])]
      cases hl : lastA (pickR' f D rs (i + 1)) h with
      | none => simp only [lastA]; cases lastA (f q) h <;> rfl
      | some b =>
        -- what comes later leaves the key alone if this one lays it
        cases hq : lastA (f q) h with
        | none => rfl
        | some a =>
          exfalso
          obtain ⟨k', r', h1, h2, h3⟩ := pick_mem.1 (lastA_mem hl)
          exact hap (k' + 1) r' (by simpa using h1) (by omega) (by rw [show i + (k' + 1) = i + 1 + k' from by omega]; exact h2) a (lastA_mem hq) b h3
    | succ k =>
      have ih := pick_insert (h := h) (D := D) rs (i + 1) k r (by simpa using hk) (by rw [show i + 1 + k = i + (k + 1) from by omega]; exact hD)
        (fun k' r' h1 h2 h3 => hap (k' + 1) r' (by simpa using h1) (by omega) (by rw [show i + (k' + 1) = i + 1 + k' from by omega]; exact h3))
      rw [show i + 1 + k = i + (k + 1) from by omega] at ih
      simp only [pickR', lastA_append, ih]
      have e : (if (D i || decide (i = i + (k + 1))) = true then f q else []) = (if D i = true then f q else []) := by simp
      rw [e]
      cases hr : lastA (f r) h with
      | some a => rfl
      | none => rfl

theorem pick_take {f : Rec → List (Nat × α)} : ∀ (recs : List Rec) (i0 i : Nat), pickR' f (fun j => decide (j < i0 + i)) recs i0 = (recs.take i).flatMap f
  | [], i0, i => by simp [pickR']
  | r :: rs, i0, i => by
    cases i with
    | zero =>
      have ih := pick_take (f := f) rs (i0 + 1) 0
      simp only [pickR', List.take_zero, List.flatMap_nil]
      rw [if_neg (by simp)]
      simp only [List.nil_append]
      have e : pickR' f (fun j => decide (j < i0 + 0)) rs (i0 + 1) = [] := by
        rw [List.eq_nil_iff_forall_not_mem]
        intro x hx
        obtain ⟨k, q, _, h2, _⟩ := pick_mem.1 hx
        simp at h2
        omega
      exact e
    | succ i =>
      have ih := pick_take (f := f) rs (i0 + 1) i
      simp only [pickR', List.take_succ_cons, List.flatMap_cons]
      rw [if_pos (by simp)]
      rw [show i0 + (i + 1) = i0 + 1 + i from by omega]
      rw [ih]

end

/-- A value laid at a temporary. -/
theorem applyT_length : ∀ (l : List (Nat × V)) (T : List V), (applyT T l).length = T.length
  | [], _ => rfl
  | (d, v) :: l, T => by simp [applyT, applyT_length l]

theorem applyT_append : ∀ (a b : List (Nat × V)) (T : List V), applyT T (a ++ b) = applyT (applyT T a) b
  | [], _, _ => rfl
  | (d, v) :: a, b, T => applyT_append a b (T.set d v)

theorem applyT_at : ∀ (l : List (Nat × V)) (T : List V) (t : Nat), (applyT T l)[t]? = match lastA l t with | some v => (if t < T.length then some v else none) | none => T[t]?
  | [], T, t => rfl
  | (d, v) :: l, T, t => by
    simp only [applyT, lastA, applyT_at l (T.set d v) t, List.length_set]
    cases hl : lastA l t with
    | some u => rfl
    | none =>
      simp only
      by_cases hd : d = t
      · subst hd
        rw [if_pos rfl, List.getElem?_set]
        simp
      · rw [if_neg hd, List.getElem?_set_ne hd]

theorem putT_tl (T : List V) (r : Rec) : putT T r.dst r.v = applyT T r.tl := by
  unfold Rec.tl putT
  cases r.dst <;> rfl

theorem applyEff_append : ∀ (a b : List (Nat × O)) (H : List O), applyEff H (a ++ b) = applyEff (applyEff H a) b
  | [], _, _ => rfl
  | (d, v) :: a, b, H => by simp only [List.cons_append, applyEff]; exact applyEff_append a b _

theorem writes_iff {r : Rec} {h : Nat} : r.writes h = true ↔ ∃ o, (h, o) ∈ r.eff := by
  unfold Rec.writes
  rw [List.any_eq_true]
  constructor
  · rintro ⟨⟨k, o⟩, h1, h2⟩
    simp only [decide_eq_true_eq] at h2
    subst h2
    exact ⟨o, h1⟩
  · rintro ⟨o, ho⟩
    exact ⟨(h, o), ho, by simp⟩

theorem apartR_ok {a b : Rec} (h : apartR a b = true) :
    (∀ d, a.dst = some d → d ∉ b.reads ∧ b.dst ≠ some d) ∧ (∀ d, b.dst = some d → d ∉ a.reads) ∧
    (∀ k o, (k, o) ∈ a.eff → b.rd.contains k = false ∧ ∀ q, (k, q) ∉ b.eff) ∧ (∀ k o, (k, o) ∈ b.eff → a.rd.contains k = false) := by
  simp only [apartR, Bool.and_eq_true] at h
  obtain ⟨⟨⟨h1, h2⟩, h3⟩, h4⟩ := h
  refine ⟨?_, ?_, ?_, ?_⟩
  · intro d hd
    rw [hd] at h1
    simp only [Bool.and_eq_true, Bool.not_eq_true', List.contains_eq_mem, decide_eq_false_iff_not, decide_eq_true_eq] at h1
    exact h1
  · intro d hd
    rw [hd] at h2
    simpa [List.contains_eq_mem] using h2
  · intro k o hk
    have := List.all_eq_true.1 h3 _ hk
    simp only [Bool.and_eq_true, Bool.not_eq_true'] at this
    refine ⟨this.1, fun q hq => ?_⟩
    have h5 := writes_iff.2 ⟨q, hq⟩
    rw [this.2] at h5; simp at h5
  · intro k o hk
    have := List.all_eq_true.1 h4 _ hk
    simpa using this

theorem apartW_ok {a b : Rec} (h : apartW a b = true) :
    (∀ d, a.dst = some d → d ∉ b.reads ∧ b.dst ≠ some d) ∧ (∀ d, b.dst = some d → d ∉ a.reads) ∧
    (∀ k o, (k, o) ∈ a.eff → b.rd.contains k = false ∧ ∀ q, (k, q) ∉ b.eff) := by
  simp only [apartW, Bool.and_eq_true] at h
  obtain ⟨⟨h1, h2⟩, h3⟩ := h
  refine ⟨?_, ?_, ?_⟩
  · intro d hd
    rw [hd] at h1
    simp only [Bool.and_eq_true, Bool.not_eq_true', List.contains_eq_mem, decide_eq_false_iff_not, decide_eq_true_eq] at h1
    exact h1
  · intro d hd
    rw [hd] at h2
    simpa [List.contains_eq_mem] using h2
  · intro k o hk
    have := List.all_eq_true.1 h3 _ hk
    simp only [Bool.and_eq_true, Bool.not_eq_true'] at this
    refine ⟨this.1, fun q hq => ?_⟩
    have h5 := writes_iff.2 ⟨q, hq⟩
    rw [this.2] at h5; simp at h5

theorem apartR_W {a b : Rec} (h : apartR a b = true) : apartW a b = true := by
  simp only [apartR, Bool.and_eq_true] at h
  simp only [apartW, Bool.and_eq_true]
  exact h.1

theorem tl_mem {r : Rec} {t : Nat} {v : V} (h : (t, v) ∈ r.tl) : r.dst = some t := by
  unfold Rec.tl at h
  cases hd : r.dst with
  | none => rw [hd] at h; simp at h
  | some d =>
    rw [hd] at h
    simp only [List.mem_singleton, Prod.mk.injEq] at h
    rw [h.1]

theorem look_mask {ok rd : Nat → Bool} : ∀ (H : List O) (n h : Nat), (ok (n + h) = true → look H h ≠ none) →
    look (maskH ok rd H n) h = if ok (n + h) then (if rd (n + h) then look H h else some .dead) else none
  | [], n, h, hl => by
    by_cases hk : ok (n + h) = true
    · exact (hl hk rfl).elim
    · rw [if_neg hk]; rfl
  | o :: H, n, h, hl => by
    cases h with
    | succ h =>
      have e : look (o :: H) (h + 1) = look H h := by simp [look]
      rw [e] at hl ⊢
      have e2 : look (maskH ok rd (o :: H) n) (h + 1) = look (maskH ok rd H (n + 1)) h := by simp [look, maskH]
      rw [e2, look_mask H (n + 1) h (by rw [show n + 1 + h = n + (h + 1) from by omega]; exact hl), show n + 1 + h = n + (h + 1) from by omega]
    | zero =>
      rw [Nat.add_zero] at hl ⊢
      by_cases hk : ok n = true
      · have hlk := hl hk
        rw [if_pos hk]
        by_cases hr : rd n = true
        · rw [if_pos hr]
          simp [look, maskH, hk, hr]
        · rw [if_neg hr]
          simp [look, maskH, hk, hr]
      · rw [if_neg hk]
        simp [look, maskH, hk]

theorem mask_mem {ok rd : Nat → Bool} : ∀ (H : List O) (n h : Nat) (o : O), H[h]? = some o → ok (n + h) = true → rd (n + h) = true → o ∈ maskH ok rd H n
  | [], _, _, _, h, _, _ => by simp at h
  | p :: H, n, h, o, ho, hk, hr => by
    cases h with
    | zero =>
      simp only [List.getElem?_cons_zero, Option.some.injEq] at ho
      subst ho
      rw [Nat.add_zero] at hk hr
      simp [maskH, hk, hr]
    | succ h =>
      simp only [maskH, List.mem_cons]
      right
      exact mask_mem H (n + 1) h o (by simpa using ho) (by rw [show n + 1 + h = n + (h + 1) from by omega]; exact hk) (by rw [show n + 1 + h = n + (h + 1) from by omega]; exact hr)

theorem maskT_length (reads : List Nat) : ∀ (T : List V) (n : Nat), (maskT reads T n).length = T.length
  | [], _ => rfl
  | v :: T, n => by simp [maskT, maskT_length reads T]

theorem maskT_at (reads : List Nat) : ∀ (T : List V) (n t : Nat), (maskT reads T n)[t]? = (T[t]?).map fun v => if reads.contains (n + t) then v else .junk
  | [], _, _ => by simp [maskT]
  | v :: T, n, t => by
    cases t with
    | zero => simp [maskT]
    | succ t =>
      simp only [maskT, List.getElem?_cons_succ, maskT_at reads T (n + 1) t]
      rw [show n + 1 + t = n + (t + 1) from by omega]

theorem denL_of {I : Itp} {ρ : List U} {η : Env} : ∀ (vs : List V) (xs : List Value), xs.length = vs.length → (∀ (t : Nat) (v : V) (x : Value), vs[t]? = some v → xs[t]? = some x → V.den I ρ η v x) → V.denL I ρ η vs xs
  | [], [], _, _ => rfl
  | [], _ :: _, h, _ => by simp at h
  | _ :: _, [], h, _ => by simp at h
  | v :: vs, x :: xs, h, hh => by
    simp only [V.denL]
    exact ⟨x, xs, rfl, hh 0 v x rfl rfl, denL_of vs xs (by simpa using h) (fun t v' x' h1 h2 => hh (t + 1) v' x' (by simpa using h1) (by simpa using h2))⟩

theorem look_free (H : List O) (n h : Nat) : look (H ++ List.replicate n .free) h = look H h := by
  unfold look
  by_cases hh : h < H.length
  · rw [List.getElem?_append_left hh]
  · rw [List.getElem?_append_right (by omega), List.getElem?_eq_none (l := H) (by omega)]
    by_cases hn : h - H.length < n
    · rw [List.getElem?_replicate_of_lt hn]
    · rw [List.getElem?_eq_none (by simp; omega)]

theorem look_dropFree (H : List O) (h : Nat) : look (dropFree H) h = look H h := by
  have key : ∀ (L : List O), ∃ n, L = (List.replicate n O.free) ++ L.dropWhile (fun o => match o with | .free => true | _ => false) := by
    intro L
    induction L with
    | nil => exact ⟨0, rfl⟩
    | cons o L ih =>
      obtain ⟨n, hn⟩ := ih
      cases o with
      | free =>
        refine ⟨n + 1, ?_⟩
        rw [List.replicate_succ, List.cons_append, List.dropWhile_cons_of_pos rfl, ← hn]
      | _ => exact ⟨0, by rw [List.dropWhile_cons_of_neg (by simp)]; rfl⟩
  obtain ⟨n, hn⟩ := key H.reverse
  have e : H = dropFree H ++ List.replicate n .free := by
    have := congrArg List.reverse hn
    rw [List.reverse_reverse, List.reverse_append, List.reverse_replicate] at this
    exact this
  conv => rhs; rw [e]
  rw [look_free]

end Go.Sx

/- The symbolic executor, part Zb: a region whose order is drawn. -/
namespace Go.Sx
open Go

section
variable {C : Ctx} {I : Itp} {ρ : List U} {pc : List E} {η : Env} {S : Nat → Prop} {H : List O} {w0 w : World} {s : St} {F : Frame} {Fs cs : List Frame}

/-- What one operation has come to. -/
theorem drawOne_cases {all : List Oper} {bf : List (List Nat)} {H0 : List O} {tmps : List V} {recs : List Rec} {i : Nat} {o : Oper} {r : Rec} (h : drawOne C pc all bf H0 tmps H recs i o = .ok r) :
    r.dst = o.dst ∧ r.reads = readsOf all o ∧
    ((∃ e, wantedT all (maskT r.reads tmps 0) o.guard pc = (some false, e) ∧ r.v = .tup [] ∧ r.eff = []) ∨
     (∃ e r1, wantedT all (maskT r.reads tmps 0) o.guard pc = (some true, e) ∧ V.withinL (fun _ => false) (maskT r.reads tmps 0) = true ∧ opR C.P [] pc [] (H0.length + 4 * i) (maskT r.reads tmps 0) o.op = .ok r1 ∧ r1.eff = [] ∧ r.v = r1.v ∧ r.eff = [] ∧ r.needs = r1.needs) ∨
     (∃ e r1, wantedT all (maskT r.reads tmps 0) o.guard pc = (some true, e) ∧
        runOne C pc (maskH (okHs H0 recs (bf.getD i [])) (fun h => r.rd.contains h) H 0) (H0.length + 4 * i) (maskT r.reads tmps 0) o.op = .ok r1 ∧ r.v = r1.v ∧ r.eff = r1.eff ∧ r.needs = r1.needs ∧
        V.withinL (okHs H0 recs (bf.getD i [])) (maskT r.reads tmps 0) = true ∧ (C.gl.all fun g => okHs H0 recs (bf.getD i []) g.2) = true ∧
        ((maskH (okHs H0 recs (bf.getD i [])) (fun h => r.rd.contains h) H 0).all (O.within (okHs H0 recs (bf.getD i [])))) = true ∧
        ((List.range 4).all fun k => !okHs H0 recs (bf.getD i []) (H0.length + 4 * i + k)) = true ∧
        r.eff.all (effOk H0 (okHs H0 recs (bf.getD i [])) (fun h => r.rd.contains h) H0.length i (bf.getD i [])) = true)) := by
  unfold drawOne at h
  simp only at h
  split at h
  · simp at h
  · simp at h
  · rename_i e hw
    simp only [DR1.ok.injEq] at h; subst h
    exact ⟨rfl, rfl, .inl ⟨e, hw, rfl, rfl⟩⟩
  · rename_i e hw
    split at h
    · rename_i rc hcalm
      simp only [DR1.ok.injEq] at h; subst h
      unfold drawCalm at hcalm
      split at hcalm
      · rename_i hwin
        split at hcalm
        · rename_i r1 hr1
          split at hcalm
          · rename_i hemp
            simp only [Option.some.injEq] at hcalm; subst hcalm
            exact ⟨rfl, rfl, .inr (.inl ⟨e, r1, hw, hwin, hr1, List.isEmpty_iff.1 hemp, rfl, rfl, rfl⟩)⟩
          · simp at hcalm
        · simp at hcalm
      · simp at hcalm
    split at h
    · rename_i r0 hr0
      split at h
      · rename_i r1 hr1
        split at h
        · rename_i hchk
          simp only [DR1.ok.injEq] at h; subst h
          simp only [Bool.and_eq_true] at hchk
          obtain ⟨⟨⟨⟨c1, c2⟩, c3⟩, c4⟩, c5⟩ := hchk
          exact ⟨rfl, rfl, .inr (.inr ⟨e, r1, hw, hr1, rfl, rfl, rfl, c1, c2, c3, c4, c5⟩)⟩
        · simp at h
      · simp at h
      · simp at h
      · simp at h
    · simp at h
    · simp at h
    · simp at h

theorem drawOps_ok {all : List Oper} {bf : List (List Nat)} {H0 : List O} {T0 : List V} {HB : List O} : ∀ (os : List Oper) (i : Nat) (tmps : List V) (H : List O) (recs : List Rec) (tmps' : List V) (H' : List O) (recs' : List Rec),
    drawOps C pc all bf H0 os i tmps H recs = .ok tmps' H' recs' → recs.length = i → tmps = applyT T0 (recs.flatMap Rec.tl) → H = applyEff HB (recs.flatMap Rec.eff) →
    recs'.length = i + os.length ∧ recs'.take i = recs ∧ tmps' = applyT T0 (recs'.flatMap Rec.tl) ∧ H' = applyEff HB (recs'.flatMap Rec.eff) ∧
      ∀ k o, os[k]? = some o → ∃ r, recs'[i + k]? = some r ∧ drawOne C pc all bf H0 (applyT T0 ((recs'.take (i + k)).flatMap Rec.tl)) (applyEff HB ((recs'.take (i + k)).flatMap Rec.eff)) (recs'.take (i + k)) (i + k) o = .ok r
  | [], i, tmps, H, recs, tmps', H', recs', h, hi, ht, hH => by
    simp only [drawOps, DR.ok.injEq] at h
    obtain ⟨rfl, rfl, rfl⟩ := h
    exact ⟨by simpa using hi, by rw [← hi, List.take_length], ht, hH, fun k o ho => by simp at ho⟩
  | o :: os, i, tmps, H, recs, tmps', H', recs', h, hi, ht, hH => by
    simp only [drawOps] at h
    split at h
    · rename_i r hr
      have ih := drawOps_ok (T0 := T0) (HB := HB) os (i + 1) _ _ _ tmps' H' recs' h (by simp [hi]) (by rw [putT_tl, ht, ← applyT_append, List.flatMap_append]; simp) (by rw [hH, ← applyEff_append, List.flatMap_append]; simp)
      obtain ⟨h1, h2, h3, h4, h5⟩ := ih
      have htake : recs'.take i = recs := by
        have := congrArg (List.take i) h2
        rw [List.take_take, Nat.min_eq_left (by omega), ← hi, List.take_left] at this
        rw [← hi]; exact this
      have hat : recs'[i]? = some r := by
        have : (recs'.take (i + 1))[i]? = some r := by rw [h2, ← hi]; simp
        rw [List.getElem?_take, if_pos (by omega)] at this
        exact this
      refine ⟨by simp only [List.length_cons]; omega, htake, h3, h4, ?_⟩
      intro k o' ho'
      cases k with
      | zero =>
        simp only [List.getElem?_cons_zero, Option.some.injEq] at ho'
        subst ho'
        refine ⟨r, by simpa using hat, ?_⟩
        rw [Nat.add_zero, htake, ← ht, ← hH]
        exact hr
      | succ k =>
        obtain ⟨q, hq1, hq2⟩ := h5 k o' (by simpa using ho')
        rw [show i + 1 + k = i + (k + 1) from by omega] at hq1 hq2
        exact ⟨q, hq1, hq2⟩
    · simp at h
    · simp at h

/-- All that is known of a drawn region. -/
structure Drawn (C : Ctx) (pc : List E) (ops : Array Oper) (bf : List (List Nat)) (H0 : List O) (T0 : List V) (recs : List Rec) : Prop where
  len : recs.length ≤ ops.size
  bfs : bfOk ops.toList bf = true
  one : ∀ i o, i < recs.length → ops[i]? = some o → ∃ r, recs[i]? = some r ∧ drawOne C pc ops.toList bf H0 (applyT T0 ((recs.take i).flatMap Rec.tl)) (applyEff (H0 ++ List.replicate (4 * ops.size) .free) ((recs.take i).flatMap Rec.eff)) (recs.take i) i o = .ok r
  pairs : (pairsOk bf recs || pairsS C pc ops.toList bf H0 (H0 ++ List.replicate (4 * ops.size) .free) T0 recs) = true

theorem Drawn.at {ops : Array Oper} {bf : List (List Nat)} {H0 : List O} {T0 : List V} {recs : List Rec} (d : Drawn C pc ops bf H0 T0 recs) {i : Nat} {r : Rec} (hr : recs[i]? = some r) :
    ∃ o, ops[i]? = some o ∧ drawOne C pc ops.toList bf H0 (applyT T0 ((recs.take i).flatMap Rec.tl)) (applyEff (H0 ++ List.replicate (4 * ops.size) .free) ((recs.take i).flatMap Rec.eff)) (recs.take i) i o = .ok r := by
  have hi0 := (List.getElem?_eq_some_iff.1 hr).1
  have hi : i < ops.size := Nat.lt_of_lt_of_le hi0 d.len
  obtain ⟨r', h1, h2⟩ := d.one i ops[i] hi0 (by simp [hi])
  rw [hr] at h1; simp only [Option.some.injEq] at h1; subst h1
  exact ⟨_, by simp [hi], h2⟩

/-- what i comes to does not hang on k's writing -/
def Soft (C : Ctx) (pc : List E) (ops : Array Oper) (bf : List (List Nat)) (H0 : List O) (T0 : List V) (recs : List Rec) (i k : Nat) : Prop :=
  i < k ∧ i ∉ bf.getD k [] ∧ ∃ a b, recs[i]? = some a ∧ recs[k]? = some b ∧ apartR a b = false ∧ softAt C pc ops.toList bf H0 (H0 ++ List.replicate (4 * ops.size) .free) T0 recs i a b = true

theorem Drawn.pair {ops : Array Oper} {bf : List (List Nat)} {H0 : List O} {T0 : List V} {recs : List Rec} (d : Drawn C pc ops bf H0 T0 recs) {i j : Nat} {a b : Rec} (hij : i < j) (ha : recs[i]? = some a) (hb : recs[j]? = some b) (hn : i ∉ bf.getD j []) :
    apartW a b = true ∧ (apartR a b = true ∨ Soft C pc ops bf H0 T0 recs i j) := by
  have hj : j < recs.length := (List.getElem?_eq_some_iff.1 hb).1
  have hp := d.pairs
  rw [Bool.or_eq_true] at hp
  rcases hp with hp | hp
  · have h1 := List.all_eq_true.1 hp j (List.mem_range.2 hj)
    have h2 := List.all_eq_true.1 h1 i (List.mem_range.2 hij)
    simp only [Bool.or_eq_true, List.contains_eq_mem, decide_eq_true_eq, ha, hb] at h2
    rcases h2 with h2 | h2
    · exact (hn h2).elim
    · exact ⟨apartR_W h2, .inl h2⟩
  · rw [pairsS, Bool.and_eq_true] at hp
    have h1 := List.all_eq_true.1 hp.1 j (List.mem_range.2 hj)
    have h2 := List.all_eq_true.1 h1 i (List.mem_range.2 hij)
    simp only [Bool.or_eq_true, Bool.and_eq_true, List.contains_eq_mem, decide_eq_true_eq, ha, hb] at h2
    rcases h2 with h2 | h2 | h2
    · exact (hn h2).elim
    · exact ⟨apartR_W h2, .inl h2⟩
    · cases hr : apartR a b with
      | true => exact ⟨h2.1, .inl rfl⟩
      | false => exact ⟨h2.1, .inr ⟨hij, hn, a, b, ha, hb, hr, h2.2⟩⟩

/-- i has one such partner at most -/
theorem Drawn.one_soft {ops : Array Oper} {bf : List (List Nat)} {H0 : List O} {T0 : List V} {recs : List Rec} (d : Drawn C pc ops bf H0 T0 recs) {i k j : Nat} (hk : Soft C pc ops bf H0 T0 recs i k) (hj : Soft C pc ops bf H0 T0 recs i j) : k = j := by
  have key : ∀ {k j : Nat}, k < j → Soft C pc ops bf H0 T0 recs i k → Soft C pc ops bf H0 T0 recs i j → False := by
    intro k j hlt hk hj
    obtain ⟨h1, h2, a, b, ha, hb, hab, hs⟩ := hk
    obtain ⟨g1, g2, a', c, ha', hc, hac, _⟩ := hj
    rw [ha] at ha'; simp only [Option.some.injEq] at ha'; subst ha'
    have hjl : j < recs.length := (List.getElem?_eq_some_iff.1 hc).1
    have hp := d.pairs
    rw [Bool.or_eq_true] at hp
    rcases hp with hp | hp
    · have q1 := List.all_eq_true.1 hp j (List.mem_range.2 hjl)
      have q2 := List.all_eq_true.1 q1 i (List.mem_range.2 g1)
      simp only [Bool.or_eq_true, List.contains_eq_mem, decide_eq_true_eq, ha, hc, hac] at q2
      rcases q2 with q2 | q2
      · exact g2 q2
      · cases q2
    · rw [pairsS, Bool.and_eq_true] at hp
      have q1 := List.all_eq_true.1 hp.2 j (List.mem_range.2 hjl)
      have q2 := List.all_eq_true.1 q1 k (List.mem_range.2 hlt)
      have q3 := List.all_eq_true.1 q2 i (List.mem_range.2 h1)
      simp only [Bool.or_eq_true, List.contains_eq_mem, decide_eq_true_eq, ha, hb, hc, hab, hac] at q3
      rcases q3 with (q3 | q3) | q3
      · exact g2 q3
      · exact h2 q3
      · rcases q3 with q3 | q3 <;> cases q3
  rcases Nat.lt_trichotomy k j with h | h | h
  · exact (key h hk hj).elim
  · exact h
  · exact (key h hj hk).elim

theorem effOk_spec {H0 : List O} {ok rd : Nat → Bool} {h0 i : Nat} {bi : List Nat} {k : Nat} {o : O} (h : effOk H0 ok rd h0 i bi (k, o) = true) :
    o.isRo = false ∧ o ≠ .free ∧ ((ok k = true ∧ rd k = true) ∨ regH h0 i k = true) ∧ (isLive H0 k = true ∨ ∃ j, (j = i ∨ j ∈ bi) ∧ regH h0 j k = true) := by
  simp only [effOk, Bool.and_eq_true, Bool.or_eq_true, Bool.not_eq_true', List.any_eq_true, List.mem_cons] at h
  obtain ⟨⟨⟨h1, h2⟩, h3⟩, h4⟩ := h
  refine ⟨h1, ?_, h3, h4⟩
  rintro rfl
  simp at h2

/-- A drawn region, some of whose operations have run. -/
structure At (C : Ctx) (I : Itp) (ρ : List U) (η : Env) (S : Nat → Prop) (w0 : World) (H0 : List O) (T0 : List V) (n : Nat) (recs : List Rec) (D : Nat → Bool) (T : Array Value) (w : World) : Prop where
  tmps : V.denL I ρ η (applyT T0 (pickR' Rec.tl D recs 0)) T.toList
  mem : Mem C.P I ρ η (applyEff (H0 ++ List.replicate (4 * n) .free) (pickR' Rec.eff D recs 0)) S w0 w

variable {ops : Array Oper} {bf : List (List Nat)} {H0 : List O} {T0 : List V} {recs : List Rec}

/-- no effect lays 'free' -/
theorem Drawn.live (d : Drawn C pc ops bf H0 T0 recs) {i : Nat} {r : Rec} (hr : recs[i]? = some r) {k : Nat} {q : O} (hm : (k, q) ∈ r.eff) :
    q ≠ .free ∧ (isLive H0 k = true ∨ ∃ j, (j = i ∨ j ∈ bf.getD i []) ∧ regH H0.length j k = true) := by
  obtain ⟨o, _, h1⟩ := d.at hr
  obtain ⟨_, _, hcase⟩ := drawOne_cases h1
  rcases hcase with ⟨e, _, _, he⟩ | ⟨e, r1, _, _, _, _, _, he, _⟩ | ⟨e, r1, _, _, _, _, _, _, _, _, _, c5⟩
  · rw [he] at hm; simp at hm
  · rw [he] at hm; simp at hm
  · obtain ⟨_, h2, _, h4⟩ := effOk_spec (List.all_eq_true.1 c5 _ hm)
    exact ⟨h2, h4⟩

theorem Drawn.lk (d : Drawn C pc ops bf H0 T0 recs) (D : Nat → Bool) (h : Nat) :
    look (applyEff (H0 ++ List.replicate (4 * ops.size) .free) (pickR' Rec.eff D recs 0)) h = match lastA (pickR' Rec.eff D recs 0) h with | some o => some o | none => look H0 h := by
  have hnf : ∀ e ∈ pickR' Rec.eff D recs 0, e.2 ≠ .free := by
    rintro ⟨k, q⟩ he
    obtain ⟨i, r, h1, _, h3⟩ := pick_mem.1 he
    exact (d.live h1 h3).1
  rw [look_applyEff _ _ _ hnf, lastW_eq, look_free]
  try (cases lastA (pickR' Rec.eff D recs 0) h <;> rfl)

/-- the set of the operations that have run is closed -/
def Closed (bf : List (List Nat)) (D : Nat → Bool) : Prop := ∀ j, D j = true → ∀ k ∈ bf.getD j [], D k = true

/-- the operations that do not agree about i: those of D against those ahead of i in the text -/
theorem Drawn.differ (d : Drawn C pc ops bf H0 T0 recs) {D : Nat → Bool} (hcl : Closed bf D) {i : Nat} (hi : D i = false) (hbi : ∀ k ∈ bf.getD i [], D k = true) {r : Rec} (hr : recs[i]? = some r)
    {k : Nat} {q : Rec} (hq : recs[k]? = some q) (hne : D (0 + k) ≠ decide (0 + k < 0 + i)) :
    (∀ t, q.dst = some t → t ∉ r.reads) ∧ ((∀ a o, (a, o) ∈ q.eff → r.rd.contains a = false) ∨ (D k = true ∧ Soft C pc ops bf H0 T0 recs i k)) := by
  rw [Nat.zero_add, Nat.zero_add] at hne
  rcases Nat.lt_trichotomy k i with h | h | h
  · have hD : D k = false := by
      cases hk : D k with
      | false => rfl
      | true => rw [hk] at hne; simp [h] at hne
    have hap := apartW_ok (d.pair h hq hr (fun hm => by rw [hbi k hm] at hD; simp at hD)).1
    exact ⟨fun t ht => (hap.1 t ht).1, .inl fun a o ha => (hap.2.2 a o ha).1⟩
  · subst h; rw [hi] at hne; simp at hne
  · have hD : D k = true := by
      cases hk : D k with
      | true => rfl
      | false =>
        rw [hk] at hne
        have : ¬ k < i := by omega
        simp [this] at hne
    obtain ⟨hW, hS⟩ := d.pair h hr hq (fun hm => by rw [hcl k hD i hm] at hi; simp at hi)
    have hap := apartW_ok hW
    refine ⟨fun t ht => hap.2.1 t ht, ?_⟩
    rcases hS with hS | hS
    · exact .inl fun a o ha => (apartR_ok hS).2.2.2 a o ha
    · exact .inr ⟨hD, hS⟩

/-- those that have run and stand behind i in the text -/
theorem Drawn.later (d : Drawn C pc ops bf H0 T0 recs) {D : Nat → Bool} (hcl : Closed bf D) {i : Nat} (hi : D i = false) {r : Rec} (hr : recs[i]? = some r)
    {k : Nat} {q : Rec} (hq : recs[k]? = some q) (hik : i < k) (hD : D (0 + k) = true) : (∀ t, r.dst = some t → q.dst ≠ some t) ∧ (∀ a o, (a, o) ∈ r.eff → ∀ p, (a, p) ∉ q.eff) := by
  rw [Nat.zero_add] at hD
  have hap := apartW_ok (d.pair hik hr hq (fun hm => by rw [hcl k hD i hm] at hi; simp at hi)).1
  exact ⟨fun t ht => (hap.1 t ht).2, fun a o ha => (hap.2.2 a o ha).2⟩

theorem Drawn.tmps_eq (d : Drawn C pc ops bf H0 T0 recs) {D : Nat → Bool} (hcl : Closed bf D) {i : Nat} (hi : D i = false) (hbi : ∀ k ∈ bf.getD i [], D k = true) {r : Rec} (hr : recs[i]? = some r) {t : Nat} (ht : t ∈ r.reads) :
    (applyT T0 (pickR' Rec.tl D recs 0))[t]? = (applyT T0 ((recs.take i).flatMap Rec.tl))[t]? := by
  rw [← pick_take recs 0 i, applyT_at, applyT_at]
  rw [pick_agree (D := D) (D' := fun j => decide (j < 0 + i)) recs 0]
  intro k q hq hne v hv
  exact (d.differ hcl hi hbi hr hq hne).1 t (tl_mem hv) ht

def with_' (D : Nat → Bool) (i : Nat) : Nat → Bool := fun j => D j || decide (j = 0 + i)

theorem Drawn.mem_eq (d : Drawn C pc ops bf H0 T0 recs) {D : Nat → Bool} (hcl : Closed bf D) {i : Nat} (hi : D i = false) (hbi : ∀ k ∈ bf.getD i [], D k = true) {r : Rec} (hr : recs[i]? = some r) {h : Nat} (ht : r.rd.contains h = true)
    (hns : ∀ k q, recs[k]? = some q → D k = true → Soft C pc ops bf H0 T0 recs i k → ∀ o, (h, o) ∉ q.eff) :
    look (applyEff (H0 ++ List.replicate (4 * ops.size) .free) (pickR' Rec.eff D recs 0)) h = look (applyEff (H0 ++ List.replicate (4 * ops.size) .free) ((recs.take i).flatMap Rec.eff)) h := by
  rw [← pick_take recs 0 i, d.lk, d.lk]
  rw [pick_agree (D := D) (D' := fun j => decide (j < 0 + i)) recs 0]
  intro k q hq hne v hv
  rcases (d.differ hcl hi hbi hr hq hne).2 with h1 | ⟨h1, h2⟩
  · have := h1 h v hv
    rw [ht] at this; simp at this
  · exact hns k q hq h1 h2 v hv

/-- .. and where such a partner has written -/
theorem Drawn.mem_soft (d : Drawn C pc ops bf H0 T0 recs) {D : Nat → Bool} (hcl : Closed bf D) {i : Nat} (hi : D i = false) {r : Rec} (hr : recs[i]? = some r) {h : Nat} (ht : r.rd.contains h = true)
    {k : Nat} {q : Rec} (hq : recs[k]? = some q) (hD : D k = true) (hs : Soft C pc ops bf H0 T0 recs i k) {o : O} (he : q.eff = [(h, o)]) :
    look (applyEff (H0 ++ List.replicate (4 * ops.size) .free) (pickR' Rec.eff D recs 0)) h = some o := by
  rw [d.lk]
  have e : lastA (pickR' Rec.eff D recs 0) h = some o := by
    let D' : Nat → Bool := fun j => D j && decide (j ≠ 0 + k)
    have e1 : D = with_' D' k := by
      funext j
      simp only [with_', D']
      by_cases hj : j = k
      · subst hj; simp [hD]
      · simp [hj]
    have ins := pick_insert (f := Rec.eff) (D := D') (h := h) recs 0 k q hq (by simp [D']) (fun j p hp hkj hDj a ha b hb => by
      simp only [D', Bool.and_eq_true, Nat.zero_add] at hDj
      have hij : i < j := Nat.lt_trans hs.1 hkj
      obtain ⟨_, hS⟩ := d.pair hij hr hp (fun hm => by rw [hcl j hDj.1 i hm] at hi; simp at hi)
      rcases hS with hS | hS
      · have := (apartR_ok hS).2.2.2 h b hb
        rw [ht] at this; simp at this
      · have := d.one_soft hs hS
        omega)
    rw [show (fun j => D' j || decide (j = 0 + k)) = D from by rw [e1]; rfl] at ins
    rw [ins, he]
    simp [lastA]
  rw [e]

/-- the set with i -/
def with_ (D : Nat → Bool) (i : Nat) : Nat → Bool := fun j => D j || decide (j = 0 + i)

theorem Drawn.tmps_with (d : Drawn C pc ops bf H0 T0 recs) {D : Nat → Bool} (hcl : Closed bf D) {i : Nat} (hi : D i = false) {r : Rec} (hr : recs[i]? = some r) :
    applyT T0 (pickR' Rec.tl (with_ D i) recs 0) = putT (applyT T0 (pickR' Rec.tl D recs 0)) r.dst r.v := by
  apply List.ext_getElem?
  intro t
  rw [putT_tl, applyT_at, applyT_at, applyT_length, applyT_at]
  have := pick_insert (f := Rec.tl) (D := D) (h := t) recs 0 i r hr (by rw [Nat.zero_add]; exact hi) (fun k q hq hik hD a ha b hb => by
    exact (d.later hcl hi hr hq hik hD).1 t (tl_mem ha) (tl_mem hb))
  rw [show (with_ D i) = (fun j => D j || decide (j = 0 + i)) from rfl, this]
  cases lastA r.tl t with
  | some v => rfl
  | none => rfl

theorem Drawn.mem_with (d : Drawn C pc ops bf H0 T0 recs) {D : Nat → Bool} (hcl : Closed bf D) {i : Nat} (hi : D i = false) {r : Rec} (hr : recs[i]? = some r) (h : Nat) :
    look (applyEff (H0 ++ List.replicate (4 * ops.size) .free) (pickR' Rec.eff (with_ D i) recs 0)) h = look (applyEff (applyEff (H0 ++ List.replicate (4 * ops.size) .free) (pickR' Rec.eff D recs 0)) r.eff) h := by
  rw [look_applyEff r.eff _ _ (fun e he => (d.live hr (k := e.1) (q := e.2) he).1), d.lk, d.lk, lastW_eq]
  have := pick_insert (f := Rec.eff) (D := D) (h := h) recs 0 i r hr (by rw [Nat.zero_add]; exact hi) (fun k q hq hik hD a ha b hb => by
    exact (d.later hcl hi hr hq hik hD).2 h a ha b hb)
  rw [show (with_ D i) = (fun j => D j || decide (j = 0 + i)) from rfl, this]
  cases lastA r.eff h with
  | some v => rfl
  | none => rfl

end
end Go.Sx

/- The symbolic executor, part Zc: a region whose order is drawn, run. -/
namespace Go.Sx
open Go

section
variable {C : Ctx} {I : Itp} {ρ : List U} {pc : List E} {η : Env} {S : Nat → Prop} {H : List O} {w0 w : World} {s : St} {F : Frame} {Fs cs : List Frame}
variable {ops : Array Oper} {bf : List (List Nat)} {H0 : List O} {T0 : List V} {recs : List Rec}

theorem isLive_look {h : Nat} : isLive H h = true ↔ look H h ≠ none := by
  unfold isLive
  cases look H h <;> simp

theorem regH_iff {h0 i h : Nat} : regH h0 i h = true ↔ h0 + 4 * i ≤ h ∧ h < h0 + 4 * i + 4 := by simp [regH]

mutual
theorem V.same_eq : ∀ (a b : V), V.same a b = true → a = b
  | .int k e, b, h => by
    cases b <;> simp only [V.same, Bool.and_eq_true, decide_eq_true_eq, Bool.false_eq_true] at h
    rw [h.1, E.same_eq h.2]
  | .bool e, b, h => by
    cases b <;> simp only [V.same, Bool.false_eq_true] at h
    rw [E.same_eq h]
  | .agg l, b, h => by
    cases b <;> simp only [V.same, Bool.false_eq_true] at h
    rw [V.sameL_eq _ _ h]
  | .tup l, b, h => by
    cases b <;> simp only [V.same, Bool.false_eq_true] at h
    rw [V.sameL_eq _ _ h]
  | .junk, b, h => by simp [V.same] at h
  | .ptr _ _ _, b, h => by simp [V.same] at h
  | .nilp, b, h => by simp [V.same] at h
  | .slice _ _ _ _ _, b, h => by simp [V.same] at h
  | .nils, b, h => by simp [V.same] at h
  | .func _ _, b, h => by simp [V.same] at h
  | .nilf, b, h => by simp [V.same] at h
  | .yld _, b, h => by simp [V.same] at h
  | .map _, b, h => by simp [V.same] at h
  | .nilm, b, h => by simp [V.same] at h
theorem V.sameL_eq : ∀ (a b : List V), V.sameL a b = true → a = b
  | [], b, h => by cases b <;> simp [V.sameL] at h; rfl
  | v :: l, b, h => by
    cases b with
    | nil => simp [V.sameL] at h
    | cons u m =>
      simp only [V.sameL, Bool.and_eq_true] at h
      rw [V.same_eq v u h.1, V.sameL_eq l m h.2]
end

theorem sameEs_eq : ∀ (a b : List E), sameEs a b = true → a = b
  | [], b, h => by cases b <;> simp [sameEs] at h; rfl
  | v :: l, b, h => by
    cases b with
    | nil => simp [sameEs] at h
    | cons u m =>
      simp only [sameEs, Bool.and_eq_true] at h
      rw [E.same_eq h.1, sameEs_eq l m h.2]

/-- One operation of a drawn region, after others. -/
theorem draw_step (hC : CtrOk C I) (hpc : Holds I ρ pc) (d : Drawn C pc ops bf H0 T0 recs) (hg : GlOk C.gl η) {D : Nat → Bool} (hcl : Closed bf D) {i : Nat} (hi : D i = false) (hbi : ∀ k ∈ bf.getD i [], D k = true)
    {r : Rec} (hr : recs[i]? = some r) {o : Oper} (ho : ops[i]? = some o) (hn : Holds I ρ r.needs) (a : At C I ρ η S w0 H0 T0 ops.size recs D F.tmps w) (hm : F.mode = .run) {rest : List Nat} {K : List Item} (ht : F.todo = .inRegion ops (i :: rest) :: K) :
    ∃ η' x w', η.le η' ∧ Steps C.P (lone F cs w) (lone (Frame.putAt F o.dst x (.inRegion ops rest :: K)) cs w') ∧
      At C I ρ η' S w0 H0 T0 ops.size recs (with_ D i) (Frame.putAt F o.dst x (.inRegion ops rest :: K)).tmps w' := by
  obtain ⟨o', ho', hone⟩ := d.at hr
  rw [ho] at ho'; simp only [Option.some.injEq] at ho'; subst ho'
  obtain ⟨hdst, hreads, hcase⟩ := drawOne_cases hone
  -- the temporaries that it looks at
  have hmt : V.denL I ρ η (maskT r.reads (applyT T0 ((recs.take i).flatMap Rec.tl)) 0) F.tmps.toList := by
    have hl := V.denL_length a.tmps
    refine denL_of _ _ (by rw [maskT_length, applyT_length, hl, applyT_length]) ?_
    intro t v x hv hx
    rw [maskT_at, Option.map_eq_some_iff] at hv
    obtain ⟨u, hu, rfl⟩ := hv
    rw [Nat.zero_add]
    split
    · rename_i hmem
      have hmem' : t ∈ r.reads := by simpa using hmem
      rw [← d.tmps_eq hcl hi hbi hr hmem'] at hu
      obtain ⟨y, hy, hyd⟩ := V.denL_get t a.tmps hu
      rw [hx] at hy; simp only [Option.some.injEq] at hy; subst hy
      exact hyd
    · trivial
  -- what the new temporaries stand for
  have newT : ∀ {η' : Env} {x : Value}, η.le η' → V.den I ρ η' r.v x → V.denL I ρ η' (applyT T0 (pickR' Rec.tl (with_ D i) recs 0)) (Frame.putAt F o.dst x (.inRegion ops rest :: K)).tmps.toList := by
    intro η' x hle hx
    rw [d.tmps_with hcl hi hr, hdst]
    exact putT_ok (D := F.defers) (V.denL_mono hle _ _ a.tmps) hx o.dst
  rcases hcase with ⟨e, hw, hv, he⟩ | ⟨e, r1, hw, hwin, hr1, he1, hv, he, hne⟩ | ⟨e, r1, hw, hrun, hv, he, hne, c1, c2, c3, c4, c5⟩
  · -- not wanted
    have hw' := wantedT_ok hpc hmt hw
    refine ⟨η, undef, w, Env.le_refl _, Steps.one (step_opskip hm ht ho hw'), newT (Env.le_refl _) (by rw [hv]; exact ⟨_, rfl, rfl⟩), ?_⟩
    refine a.mem.congrL (fun h => ?_)
    rw [d.mem_with hcl hi hr h, he]
    rfl
  · -- it leans on no memory
    have hw' := wantedT_ok hpc hmt hw
    have hM : ∀ h, look ([] : List O) h = if (fun _ : Nat => false) h then (if (fun _ : Nat => false) h then look (applyEff (H0 ++ List.replicate (4 * ops.size) .free) (pickR' Rec.eff D recs 0)) h else some .dead) else none := fun h => rfl
    have mP := a.mem.part (ok := fun _ => false) (rd := fun _ => false) (M := []) hM (fun h hh => by simp at hh) (fun h q hh => by simp at hh)
    have hev := evalO_den (fr := F) (gl := []) (η := η.only fun _ => false) (fun g k hk => by cases hk) (withinL_ok _ _ hwin hmt)
    obtain ⟨nx, x, w', ηr, h1, h2, h3, h4, h5⟩ := opR_ok (o := o) hpc mP (look_none_of rfl) hev hr1 (by rw [← hne]; exact hn)
    rw [he1] at h5
    obtain ⟨η', g1, g2, _, g3⟩ := a.mem.whole (ok := fun _ => false) (rd := fun _ => false) (M := []) hM (fun h hh => by simp at hh) (reg := fun _ => false) (fun h hh => by simp at hh) (eff := []) (fun h q hq => by cases hq) h3 h5
    refine ⟨η', x, w', g1, Steps.one (step_opv hm ht ho hw' (opR_defer hr1) h1 h2), newT g1 (by rw [hv]; exact V.den_mono g2 _ _ h4), ?_⟩
    refine g3.congrL (fun h => ?_)
    rw [d.mem_with hcl hi hr h, he]
  · have hw' := wantedT_ok hpc hmt hw
    have hlen : i < ops.size := (Array.getElem?_eq_some_iff.1 ho).1
    have hbf := List.all_eq_true.1 d.bfs i (List.mem_range.2 (by simpa using (Array.getElem?_eq_some_iff.1 ho).1))
    rw [Array.getElem?_toList, ho] at hbf
    simp only [Bool.and_eq_true, List.all_eq_true, decide_eq_true_eq] at hbf
    have hblt : ∀ k ∈ bf.getD i [], k < i := fun k hk => (hbf.2 k hk).1
    -- the handles that are there in every order
    have hlive0 : ∀ (D' : Nat → Bool), (∀ k ∈ bf.getD i [], D' k = true) → ∀ h, okHs H0 (recs.take i) (bf.getD i []) h = true → look (applyEff (H0 ++ List.replicate (4 * ops.size) .free) (pickR' Rec.eff D' recs 0)) h ≠ none := by
      intro D' hD' h hh
      rw [d.lk]
      simp only [okHs, Bool.or_eq_true, List.any_eq_true] at hh
      rcases hh with hh | ⟨j, hj, hjw⟩
      · have := isLive_look.1 hh
        cases lastA (pickR' Rec.eff D' recs 0) h with
        | some q => simp
        | none => exact this
      · split at hjw
        · rename_i q hq
          rw [List.getElem?_take] at hq
          split at hq
          · obtain ⟨p, hp⟩ := writes_iff.1 hjw
            have := lastA_some (pick_mem.2 ⟨j, q, hq, by rw [Nat.zero_add]; exact hD' j hj, hp⟩ : (h, p) ∈ pickR' Rec.eff D' recs 0)
            cases hl : lastA (pickR' Rec.eff D' recs 0) h with
            | some q => simp
            | none => exact (this hl).elim
          · simp at hq
        · simp at hjw
    have hliveI0 : ∀ h, okHs H0 (recs.take i) (bf.getD i []) h = true → look (applyEff (H0 ++ List.replicate (4 * ops.size) .free) ((recs.take i).flatMap Rec.eff)) h ≠ none := by
      rw [← pick_take recs 0 i]
      exact hlive0 _ (fun k hk => by simp [hblt k hk])
    have hparts : ∃ (Hi : List O) (r1 : AR), runOne C pc (maskH (okHs H0 (recs.take i) (bf.getD i [])) (fun h => r.rd.contains h) Hi 0) (H0.length + 4 * i) (maskT r.reads (applyT T0 ((recs.take i).flatMap Rec.tl)) 0) o.op = .ok r1 ∧
        r.v = r1.v ∧ r.eff = r1.eff ∧ r.needs = r1.needs ∧ (maskH (okHs H0 (recs.take i) (bf.getD i [])) (fun h => r.rd.contains h) Hi 0).all (O.within (okHs H0 (recs.take i) (bf.getD i []))) = true ∧
        (∀ h, r.rd.contains h = true → look (applyEff (H0 ++ List.replicate (4 * ops.size) .free) (pickR' Rec.eff D recs 0)) h = look Hi h) ∧ (∀ h, okHs H0 (recs.take i) (bf.getD i []) h = true → look Hi h ≠ none) := by
      by_cases hsoft : ∃ k q, recs[k]? = some q ∧ D k = true ∧ Soft C pc ops bf H0 T0 recs i k
      · obtain ⟨k, q, hq, hDk, hS⟩ := hsoft
        obtain ⟨hik, _, a', b', ha', hb', hab, hsa⟩ := id hS
        rw [hr] at ha'; simp only [Option.some.injEq] at ha'; subst ha'
        rw [hq] at hb'; simp only [Option.some.injEq] at hb'; subst hb'
        have hap := (d.pair hik hr hq hS.2.1).1
        unfold softAt at hsa
        rw [Array.getElem?_toList, ho] at hsa
        split at hsa
        · rename_i o' h p ho' heq
          simp only [Option.some.injEq] at ho'; subst ho'
          simp only [Bool.and_eq_true] at hsa
          obtain ⟨⟨s1, s2⟩, s3⟩ := hsa
          split at s3
          · rename_i r1' hr1'
            simp only [Bool.and_eq_true] at s3
            obtain ⟨⟨⟨t1, t2⟩, t3⟩, t4⟩ := s3
            have hlk := hliveI0 h s2
            have hlt : h < (applyEff (H0 ++ List.replicate (4 * ops.size) .free) ((recs.take i).flatMap Rec.eff)).length := by
              rcases Nat.lt_or_ge h (applyEff (H0 ++ List.replicate (4 * ops.size) .free) ((recs.take i).flatMap Rec.eff)).length with h1 | h1
              · exact h1
              · exact (hlk (look_ge h1)).elim
            have hpf : p ≠ .free := (d.live hq (k := h) (q := p) (by rw [heq]; simp)).1
            have hset : ∀ h', look ((applyEff (H0 ++ List.replicate (4 * ops.size) .free) ((recs.take i).flatMap Rec.eff)).set h p) h' = if h' = h then some p else look (applyEff (H0 ++ List.replicate (4 * ops.size) .free) ((recs.take i).flatMap Rec.eff)) h' := by
              intro h'
              have := look_setO (H := applyEff (H0 ++ List.replicate (4 * ops.size) .free) ((recs.take i).flatMap Rec.eff)) (h := h) hpf h'
              unfold setO at this
              rw [if_pos hlt] at this
              exact this
            have hrd : r.rd.contains h = true := by
              cases hc : r.rd.contains h with
              | true => rfl
              | false =>
                exfalso
                have : apartR r q = true := by
                  simp only [apartW, Bool.and_eq_true] at hap
                  simp only [apartR, Bool.and_eq_true]
                  exact ⟨hap, by rw [heq]; simp only [List.all_cons, List.all_nil, hc]; rfl⟩
                rw [this] at hab; cases hab
            refine ⟨_, r1', hr1', (V.same_eq _ _ t1).symm, by rw [List.isEmpty_iff.1 s1, List.isEmpty_iff.1 t2], (sameEs_eq _ _ t3).symm, t4, ?_, ?_⟩
            · intro h' hh'
              rw [hset]
              split
              · rename_i e; subst e
                exact d.mem_soft hcl hi hr hrd hq hDk hS heq
              · rename_i e
                refine d.mem_eq hcl hi hbi hr hh' (fun k' q' hq' _ hS' o hmem => ?_)
                have := d.one_soft hS hS'
                subst this
                rw [hq] at hq'; simp only [Option.some.injEq] at hq'; subst hq'
                rw [heq] at hmem
                simp only [List.mem_singleton, Prod.mk.injEq] at hmem
                exact e hmem.1
            · intro h' hh'
              rw [hset]
              split
              · simp
              · exact hliveI0 h' hh'
          · cases s3
        · cases hsa
      · exact ⟨_, r1, hrun, hv, he, hne, c3, fun h hh => d.mem_eq hcl hi hbi hr hh (fun k q hq hDk hS => (hsoft ⟨k, q, hq, hDk, hS⟩).elim), hliveI0⟩
    clear hrun hv he hne c3 hliveI0
    obtain ⟨Hi, r1, hrun, hv, he, hne, c3, hsame, hliveI⟩ := hparts
    generalize hok : okHs H0 (recs.take i) (bf.getD i []) = ok at hrun c1 c2 c3 c4 c5 hlive0 hliveI
    generalize hmtE : maskT r.reads (applyT T0 ((recs.take i).flatMap Rec.tl)) 0 = mt at hmt hrun c1
    generalize hHD : applyEff (H0 ++ List.replicate (4 * ops.size) .free) (pickR' Rec.eff D recs 0) = HD at hsame
    have aM := a.mem
    rw [hHD] at aM
    have hliveD : ∀ h, ok h = true → look HD h ≠ none := by rw [← hHD]; exact hlive0 D hbi
    have hM : ∀ h, look (maskH ok (fun h => r.rd.contains h) Hi 0) h = if ok h then (if r.rd.contains h then look HD h else some .dead) else none := by
      intro h
      rw [look_mask Hi 0 h (by rw [Nat.zero_add]; exact hliveI h), Nat.zero_add]
      by_cases hk : ok h = true
      · rw [if_pos hk, if_pos hk]
        by_cases hrd : r.rd.contains h = true
        · rw [if_pos hrd, if_pos hrd, hsame h hrd]
        · rw [if_neg hrd, if_neg hrd]
      · rw [if_neg hk, if_neg hk]
    have hwit : ∀ h o, ok h = true → r.rd.contains h = true → look HD h = some o → o.within ok = true := by
      intro h q hk hrd hl
      rw [hsame h hrd] at hl
      have := mask_mem (ok := ok) (rd := fun h => r.rd.contains h) Hi 0 h q (look_some hl).1 (by rw [Nat.zero_add]; exact hk) (by rw [Nat.zero_add]; exact hrd)
      exact List.all_eq_true.1 c3 q this
    -- the handles of its own
    have hreg : ∀ h, regH H0.length i h = true → ok h = false ∧ look HD h = none := by
      intro h hh
      have hh' := regH_iff.1 hh
      constructor
      · have := List.all_eq_true.1 c4 (h - (H0.length + 4 * i)) (List.mem_range.2 (by omega))
        rw [show H0.length + 4 * i + (h - (H0.length + 4 * i)) = h from by omega] at this
        simpa using this
      · rw [← hHD, d.lk]
        have h1 : look H0 h = none := look_ge (by omega)
        rw [lastA_no]
        · exact h1
        · intro q hq
          obtain ⟨j, p, h2, h3, h4⟩ := pick_mem.1 hq
          rw [Nat.zero_add] at h3
          rcases (d.live h2 h4).2 with h5 | ⟨k, hk, h5⟩
          · exact isLive_look.1 h5 h1
          · have h6 := regH_iff.1 h5
            have hki : k = i := by omega
            subst hki
            rcases hk with rfl | hk
            · rw [hi] at h3; simp at h3
            · rw [hcl j h3 _ hk] at hi; simp at hi
    have heff : ∀ h q, (h, q) ∈ r.eff → q.isRo = false ∧ q ≠ .free ∧ ((ok h = true ∧ r.rd.contains h = true) ∨ regH H0.length i h = true) := by
      intro h q hq
      obtain ⟨h1, h2, h3, _⟩ := effOk_spec (List.all_eq_true.1 c5 _ hq)
      exact ⟨h1, h2, h3⟩
    have mP := aM.part (ok := ok) (rd := fun h => r.rd.contains h) hM hliveD hwit
    have hgP : GlOk C.gl (η.only ok) := by
      intro g k hk
      obtain ⟨j, hj, hb⟩ := hg g k hk
      have := List.all_eq_true.1 c2 (g, k) hk
      exact ⟨j, by rw [Env.only_ok this]; exact hj, hb⟩
    have hfree : ∀ k, k < 4 → look (maskH ok (fun h => r.rd.contains h) Hi 0) (H0.length + 4 * i + k) = none := by
      intro k hk
      rw [hM, if_neg]
      have := (hreg (H0.length + 4 * i + k) (regH_iff.2 (by omega))).1
      simp [this]
    have hmtP : V.denL I ρ (η.only ok) mt F.tmps.toList := withinL_ok _ _ c1 hmt
    have hev := evalO_den (fr := F) hgP hmtP
    -- the end
    have close : ∀ {ηr : Env} {x : Value} {w' : World}, (η.only ok).le ηr → V.den I ρ ηr r1.v x → Mem C.P I ρ ηr (applyEff (maskH ok (fun h => r.rd.contains h) Hi 0) r1.eff) (ownS (maskH ok (fun h => r.rd.contains h) Hi 0) (η.only ok)) w w' →
        Steps C.P (lone F cs w) (lone (Frame.putAt F o.dst x (.inRegion ops rest :: K)) cs w') → ∃ η' x w', η.le η' ∧ Steps C.P (lone F cs w) (lone (Frame.putAt F o.dst x (.inRegion ops rest :: K)) cs w') ∧
      At C I ρ η' S w0 H0 T0 ops.size recs (with_ D i) (Frame.putAt F o.dst x (.inRegion ops rest :: K)).tmps w' := by
      intro ηr x w' hle hx hmr hs
      rw [← he] at hmr
      obtain ⟨η', h1, h2, _, h3⟩ := aM.whole hM hliveD hreg heff hle hmr
      refine ⟨η', x, w', h1, hs, newT h1 (by rw [hv]; exact V.den_mono h2 _ _ hx), h3.congrL (fun h => ?_)⟩
      rw [d.mem_with hcl hi hr h, hHD]
    have hn1 : Holds I ρ r1.needs := by rw [← hne]; exact hn
    unfold runOne at hrun
    split at hrun
    · rename_i f caps args hf
      have hvs : ∃ vs : Array Value, V.denL I ρ (η.only ok) (args ++ caps) vs.toList ∧ ∀ g c, C.P.funcs[f]? = some g → g.body = some c → (g.name == "runtime.NumGoroutine") = false → (execOp F.eval o).run C.P w = .ok (.enter f vs) w ∧ ∀ d, o.op ≠ .defer d := by
        by_cases hex : ∃ g c, C.P.funcs[f]? = some g ∧ g.body = some c ∧ (g.name == "runtime.NumGoroutine") = false
        · obtain ⟨g, c, hgf, hc, hnm⟩ := hex
          obtain ⟨vs, h1, h2, h3⟩ := call_func (P := C.P) hev hf hgf hc hnm w
          exact ⟨vs, h2, fun _ _ _ _ _ => ⟨h1, h3⟩⟩
        · have hsome : ∃ vs : Array Value, V.denL I ρ (η.only ok) (args ++ caps) vs.toList := by
            unfold funVal at hf
            split at hf
            · rename_i cl hop
              split at hf
              · rename_i x hcal
                simp only [Option.some.injEq, Prod.mk.injEq] at hf
                obtain ⟨hx, rfl⟩ := hf
                have hxd := hev x
                rw [hx] at hxd
                simp only [V.den] at hxd
                obtain ⟨xs, hxe, hcaps⟩ := hxd
                exact ⟨(cl.args.toList.map F.eval ++ xs.toList).toArray, V.denL_append (map_denL hev _) hcaps⟩
              · simp at hf
            · simp at hf
          obtain ⟨vs, hvs⟩ := hsome
          exact ⟨vs, hvs, fun g c hgf hc hnm => (hex ⟨g, c, hgf, hc, hnm⟩).elim⟩
      obtain ⟨vs, hvd, hexec⟩ := hvs
      obtain ⟨⟨g, c, hgf, hc, hnm⟩, hrets⟩ := hC ρ pc (η.only ok) _ _ w w (H0.length + 4 * i) f (args ++ caps) vs r1 hpc mP hgP hfree hvd hrun hn1
      obtain ⟨x, w', ηr, ⟨fr, hs, hfn, hlv⟩, h2, h3, h4⟩ := hrets (F :: cs)
      obtain ⟨h5, h6⟩ := hexec g c hgf hc hnm
      refine close h2 h3 h4 ?_
      refine Steps.head (step_opcall hm ht ho hw' h6 h5) (hs.trans ?_)
      rw [← finish_op hm ht ho x]
      exact Steps.one (step_leave_returned hlv)
    · simp at hrun
    · rename_i hf
      obtain ⟨nx, x, w', ηr, h1, h2, h3, h4, h5⟩ := opR_ok (o := o) hpc mP (hfree 0 (by omega)) hev hrun hn1
      exact close h3 h4 h5 (Steps.one (step_opv hm ht ho hw' (opR_defer hrun) h1 h2))

/-- What comes behind all that stand before it is done in the text's order. -/
theorem go_late {ops : Array Oper} {bf : List (List Nat)} (hbfs : bfOk ops.toList bf = true) {m : Nat} (hlate : ∀ i, m ≤ i → i < ops.size → ∀ j, j < i → j ∈ bf.getD i []) : ∀ (q i fuel t : Nat) (listed : Array Bool), i + q = ops.size → m ≤ i → listed.size = ops.size →
    (∀ j, j < i → listed.getD j false = true) → (∀ j, i ≤ j → j < ops.size → listed.getD j false = false) → q ≤ fuel → Region.linearise.go .any ops fuel t listed [] = List.range' i q := by
  have edge : ∀ j, j < ops.size → ∀ o, ops[j]? = some o → (∀ e ∈ o.after, Region.binds .any e = true → e.on < j) ∧ ∀ k ∈ bf.getD j [], k < j ∧ ∃ e ∈ o.after, Region.binds .any e = true ∧ (e.on = k ∨ k ∈ bf.getD e.on []) := by
    intro j hj o ho
    have hbf := List.all_eq_true.1 hbfs j (List.mem_range.2 (by simpa using hj))
    rw [Array.getElem?_toList, ho] at hbf
    simp only [Bool.and_eq_true, List.all_eq_true, Bool.or_eq_true, Bool.not_eq_true', decide_eq_true_eq, List.any_eq_true, List.contains_eq_mem] at hbf
    refine ⟨fun e he hb => ?_, fun k hk => ?_⟩
    · rcases hbf.1 e (by simpa using he) with h1 | h1
      · rw [hb] at h1; simp at h1
      · exact h1
    · obtain ⟨h1, e, he, hb, hc⟩ := hbf.2 k hk
      exact ⟨h1, e, by simpa using he, hb, hc⟩
  intro q
  induction q with
  | zero =>
    intro i fuel t listed hq hm hsz hdone hopen _
    have hno : Region.ready .any ops listed = [] := by
      rw [List.eq_nil_iff_forall_not_mem]
      intro x hx
      rw [mem_ready] at hx
      obtain ⟨h1, o, ho, _⟩ := hx
      have hxs : x < ops.size := (Array.getElem?_eq_some_iff.1 ho).1
      have := hdone x (by omega)
      have hxl : x < listed.size := by omega
      simp only [Array.getD_eq_getD_getElem?, Array.getElem?_eq_getElem hxl, Option.getD_some] at h1 this
      rw [h1] at this; cases this
    cases fuel with
    | zero => rfl
    | succ fuel =>
      show (match (Region.ready .any ops listed)[t % (Region.ready .any ops listed).length]? with
        | some i => Region.linearise.go .any ops fuel (t / (Region.ready .any ops listed).length) (listed.setIfInBounds i true) [i]
        | none => [].reverse) = _
      rw [hno]
      rfl
  | succ q ih =>
    intro i fuel t listed hq hm hsz hdone hopen hf
    obtain ⟨fuel, rfl⟩ : ∃ f, fuel = f + 1 := ⟨fuel - 1, by omega⟩
    have hi : i < ops.size := by omega
    have hil : i < listed.size := by omega
    have only : ∀ x ∈ Region.ready .any ops listed, x = i := by
      intro x hx
      rw [mem_ready] at hx
      obtain ⟨h1, o, ho, hed⟩ := hx
      have hxs : x < ops.size := (Array.getElem?_eq_some_iff.1 ho).1
      have hxl : x < listed.size := by omega
      rcases Nat.lt_trichotomy x i with h | h | h
      · have := hdone x h
        simp only [Array.getD_eq_getD_getElem?, Array.getElem?_eq_getElem hxl, Option.getD_some] at h1 this
        rw [h1] at this; cases this
      · exact h
      · exfalso
        obtain ⟨_, hk⟩ := edge x hxs o ho
        obtain ⟨_, e, he, hb, hc⟩ := hk i (hlate x (by omega) hxs i h)
        have hon := hed e he hb
        have hlt := (edge x hxs o ho).1 e he hb
        rcases hc with hc | hc
        · have := hopen e.on (by omega) (by omega)
          rw [this] at hon; cases hon
        · have hes : e.on < ops.size := by omega
          have := (edge e.on hes ops[e.on] (by simp [hes])).2 i hc
          have := hopen e.on (by omega) hes
          rw [this] at hon; cases hon
    have hin : i ∈ Region.ready .any ops listed := by
      rw [mem_ready]
      refine ⟨?_, ops[i], by simp [hi], fun e he hb => hdone e.on ?_⟩
      · have := hopen i (Nat.le_refl _) hi
        simp only [Array.getD_eq_getD_getElem?, Array.getElem?_eq_getElem hil, Option.getD_some] at this ⊢
        exact this
      · exact (edge i hi ops[i] (by simp [hi])).1 e he hb
    have hlen : 0 < (Region.ready .any ops listed).length := List.length_pos_of_mem hin
    have hx : (Region.ready .any ops listed)[t % (Region.ready .any ops listed).length]? = some i := by
      have hlt := Nat.mod_lt t hlen
      rw [List.getElem?_eq_getElem hlt, only _ (List.getElem_mem hlt)]
    have hgo : Region.linearise.go .any ops (fuel + 1) t listed [] = i :: Region.linearise.go .any ops fuel (t / (Region.ready .any ops listed).length) (listed.setIfInBounds i true) [] := by
      show (match (Region.ready .any ops listed)[t % (Region.ready .any ops listed).length]? with
        | some i => Region.linearise.go .any ops fuel (t / (Region.ready .any ops listed).length) (listed.setIfInBounds i true) [i]
        | none => [].reverse) = _
      rw [hx]
      simp only
      rw [linearise_go_acc]; rfl
    have hset : ∀ j, (listed.setIfInBounds i true).getD j false = if j = i then true else listed.getD j false := by
      intro j
      by_cases hj : j = i
      · subst hj; simp [Array.getD_eq_getD_getElem?, hil]
      · rw [getD_set_ne _ (fun h => hj h.symm), if_neg hj]
    rw [hgo, ih (i + 1) fuel _ _ (by omega) (by omega) (by simpa using hsz) (fun j hj => by
      rw [hset]; split
      · rfl
      · exact hdone j (by omega)) (fun j hj hjs => by rw [hset, if_neg (by omega)]; exact hopen j (by omega) hjs) (by omega)]
    rfl

/-- The first operations, in any order that the edges let; those that come behind all before them are left. -/
theorem draw_all (hC : CtrOk C I) (hpc : Holds I ρ pc) (d : Drawn C pc ops bf H0 T0 recs) (hn : Holds I ρ (recs.flatMap Rec.needs)) {K : List Item} (hlate : ∀ i, recs.length ≤ i → i < ops.size → ∀ j, j < i → j ∈ bf.getD i []) : ∀ (fuel t : Nat) (listed : Array Bool) (U : List Nat) (η : Env) (F : Frame) (w : World),
    listed.size = ops.size → U.Nodup → (∀ j, j < recs.length → (j ∈ U ↔ listed.getD j false = false)) → (∀ j ∈ U, j < recs.length) → (∀ j, recs.length ≤ j → listed.getD j false = false) → U.length + (ops.size - recs.length) ≤ fuel → GlOk C.gl η →
    Closed bf (fun j => listed.getD j false) → At C I ρ η S w0 H0 T0 ops.size recs (fun j => listed.getD j false) F.tmps w → F.mode = .run → F.todo = .inRegion ops (Region.linearise.go .any ops fuel t listed []) :: K →
    ∃ η' F' w', η.le η' ∧ Steps C.P (lone F cs w) (lone F' cs w') ∧ F'.todo = .inRegion ops (List.range' recs.length (ops.size - recs.length)) :: K ∧ F'.fn = F.fn ∧ F'.defers = F.defers ∧ F'.mode = .run ∧ F'.kind = F.kind ∧ F'.roundOf = F.roundOf ∧
      At C I ρ η' S w0 H0 T0 ops.size recs (fun _ => true) F'.tmps w' := by
  intro fuel
  have hrl := d.len
  have finish : ∀ (fuel t : Nat) (listed : Array Bool) (η : Env) (F : Frame) (w : World), listed.size = ops.size → ops.size - recs.length ≤ fuel → (∀ j, j < recs.length → listed.getD j false = true) → (∀ j, recs.length ≤ j → listed.getD j false = false) → At C I ρ η S w0 H0 T0 ops.size recs (fun j => listed.getD j false) F.tmps w → F.mode = .run → F.todo = .inRegion ops (Region.linearise.go .any ops fuel t listed []) :: K →
      ∃ η' F' w', η.le η' ∧ Steps C.P (lone F cs w) (lone F' cs w') ∧ F'.todo = .inRegion ops (List.range' recs.length (ops.size - recs.length)) :: K ∧ F'.fn = F.fn ∧ F'.defers = F.defers ∧ F'.mode = .run ∧ F'.kind = F.kind ∧ F'.roundOf = F.roundOf ∧
        At C I ρ η' S w0 H0 T0 ops.size recs (fun _ => true) F'.tmps w' := by
    intro fuel t listed η F w hsz hfu hall hopen a hm ht
    rw [go_late d.bfs (m := recs.length) hlate (ops.size - recs.length) recs.length fuel t listed (by omega) (Nat.le_refl _) hsz hall (fun j hj _ => hopen j hj) hfu] at ht
    have hpick : ∀ {α : Type} (f : Rec → List (Nat × α)), pickR' f (fun j => listed.getD j false) recs 0 = pickR' f (fun _ => true) recs 0 := by
      intro α f
      have key : ∀ (rs : List Rec) (i : Nat), i + rs.length ≤ recs.length → pickR' f (fun j => listed.getD j false) rs i = pickR' f (fun _ => true) rs i := by
        intro rs
        induction rs with
        | nil => intro i _; rfl
        | cons r rs ih =>
          intro i hle
          simp only [List.length_cons] at hle
          simp only [pickR', hall i (by omega), ih (i + 1) (by omega)]
      exact key recs 0 (by omega)
    have a1 := a.tmps
    have a2 := a.mem
    rw [hpick] at a1 a2
    exact ⟨η, F, w, Env.le_refl _, Steps.refl _ _, ht, rfl, rfl, hm, rfl, rfl, a1, a2⟩
  induction fuel with
  | zero =>
    intro t listed U η F w hsz hU hUm hUb hop hUl hg hcl a hm ht
    have : U = [] := List.length_eq_zero_iff.1 (by omega)
    subst this
    refine finish 0 t listed η F w hsz (by simpa using hUl) (fun j hj => ?_) hop a hm ht
    have := (hUm j hj).2
    cases hd : listed.getD j false with
    | true => rfl
    | false => have := this hd; simp at this
  | succ fuel ih =>
    intro t listed U η F w hsz hU hUm hUb hop hUl hg hcl a hm ht
    by_cases hU0 : U = []
    · subst hU0
      refine finish (fuel + 1) t listed η F w hsz (by simpa using hUl) (fun j hj => ?_) hop a hm ht
      have := (hUm j hj).2
      cases hd : listed.getD j false with
      | true => rfl
      | false => have := this hd; simp at this
    have hUpos : 0 < U.length := List.length_pos_iff.2 hU0
    have hgo : Region.linearise.go .any ops (fuel + 1) t listed [] = match (Region.ready .any ops listed)[t % (Region.ready .any ops listed).length]? with
      | some i => i :: Region.linearise.go .any ops fuel (t / (Region.ready .any ops listed).length) (listed.setIfInBounds i true) []
      | none => [] := by
      show (match (Region.ready .any ops listed)[t % (Region.ready .any ops listed).length]? with
        | some i => Region.linearise.go .any ops fuel (t / (Region.ready .any ops listed).length) (listed.setIfInBounds i true) [i]
        | none => [].reverse) = _
      cases (Region.ready .any ops listed)[t % (Region.ready .any ops listed).length]? with
      | none => rfl
      | some i => simp only; rw [linearise_go_acc]; rfl
    rw [hgo] at ht
    cases hx : (Region.ready .any ops listed)[t % (Region.ready .any ops listed).length]? with
    | none =>
      rw [hx] at ht
      have hnil : Region.ready .any ops listed = [] := by
        cases hr : Region.ready .any ops listed with
        | nil => rfl
        | cons x xs =>
          rw [hr] at hx
          have hlt : t % (x :: xs).length < (x :: xs).length := Nat.mod_lt _ (by simp)
          simp at hx
          simp at hlt
          omega
      -- nothing is ready: all is listed
      have hallj : ∀ j, j < ops.size → listed.getD j false = true := by
       intro j
       induction j using Nat.strongRecOn with
       | _ j ihj =>
         intro hj
         cases hd : listed.getD j false with
         | true => rfl
         | false =>
           exfalso
           have hmem : j ∈ Region.ready .any ops listed := by
             rw [mem_ready]
             refine ⟨?_, ops[j], by simp [hj], ?_⟩
             · have : j < listed.size := by omega
               simp only [Array.getD_eq_getD_getElem?, Array.getElem?_eq_getElem this, Option.getD_some] at hd ⊢
               exact hd
             · intro e he hb
               have hbf := List.all_eq_true.1 d.bfs j (List.mem_range.2 (by simpa using hj))
               rw [Array.getElem?_toList, Array.getElem?_eq_getElem hj] at hbf
               simp only [Bool.and_eq_true, List.all_eq_true, Bool.or_eq_true, Bool.not_eq_true', decide_eq_true_eq] at hbf
               rcases hbf.1 e (by simpa using he) with h1 | h1
               · rw [hb] at h1; simp at h1
               · exact ihj e.on h1 (by omega)
           rw [hnil] at hmem
           simp at hmem
      exfalso
      obtain ⟨x, hxU⟩ := List.exists_mem_of_ne_nil U hU0
      have h1 := (hUm x (hUb x hxU)).1 hxU
      rw [hallj x (by have := hUb x hxU; omega)] at h1
      cases h1
    | some i =>
      rw [hx] at ht
      have hmem := List.mem_of_getElem? hx
      rw [mem_ready] at hmem
      obtain ⟨hli, o, ho, hedges⟩ := hmem
      have hi : i < ops.size := (Array.getElem?_eq_some_iff.1 ho).1
      have hil : i < listed.size := by omega
      have hDi : listed.getD i false = false := by
        simp only [Array.getD_eq_getD_getElem?, Array.getElem?_eq_getElem hil, Option.getD_some] at hli ⊢
        exact hli
      have hbf := List.all_eq_true.1 d.bfs i (List.mem_range.2 (by simpa using hi))
      rw [Array.getElem?_toList, ho] at hbf
      simp only [Bool.and_eq_true, List.all_eq_true, Bool.or_eq_true, Bool.not_eq_true', decide_eq_true_eq, List.any_eq_true, List.contains_eq_mem] at hbf
      have hbi : ∀ k ∈ bf.getD i [], listed.getD k false = true := by
        intro k hk
        obtain ⟨_, e, he, hb, hcase⟩ := hbf.2 k hk
        have hon := hedges e (by simpa using he) hb
        rcases hcase with rfl | hcase
        · exact hon
        · exact hcl e.on hon k hcase
      have him : i < recs.length := by
        rcases Nat.lt_or_ge i recs.length with h | h
        · exact h
        · exfalso
          obtain ⟨x, hxU⟩ := List.exists_mem_of_ne_nil U hU0
          have hxm := hUb x hxU
          have h1 := hbi x (hlate i h hi x (by omega))
          rw [(hUm x hxm).1 hxU] at h1
          cases h1
      obtain ⟨r, hr, hone⟩ := d.one i o him ho
      have hnr : Holds I ρ r.needs := fun c hc => hn c (List.mem_flatMap.2 ⟨r, List.mem_of_getElem? hr, hc⟩)
      obtain ⟨η1, x, w1, hle, hs, a1⟩ := draw_step (cs := cs) hC hpc d hg hcl hDi hbi hr ho hnr a hm ht
      have hset : ∀ j, (listed.setIfInBounds i true).getD j false = (with_ (fun j => listed.getD j false) i) j := by
        intro j
        simp only [with_, Nat.zero_add]
        by_cases hj : j = i
        · subst hj
          simp [Array.getD_eq_getD_getElem?, hil]
        · rw [getD_set_ne _ (fun h => hj h.symm)]
          simp [hj]
      have hsetf : (fun j => (listed.setIfInBounds i true).getD j false) = with_ (fun j => listed.getD j false) i := funext hset
      have hiU : i ∈ U := (hUm i him).2 hDi
      obtain ⟨η2, F2, w2, hle2, hs2, g1, g2, g3, g4, g5, g6, g7⟩ := ih (t / (Region.ready .any ops listed).length) (listed.setIfInBounds i true) (U.erase i) η1 (Frame.putAt F o.dst x (.inRegion ops (Region.linearise.go .any ops fuel (t / (Region.ready .any ops listed).length) (listed.setIfInBounds i true) []) :: K)) w1
        (by simp [hsz]) (hU.erase i)
        (fun j hj => by
          rw [hU.mem_erase_iff, hUm j hj, hset]
          simp only [with_, Nat.zero_add]
          by_cases hji : j = i <;> simp [hji])
        (fun j hj => hUb j (List.mem_of_mem_erase hj)) (fun j hj => by rw [hset]; simp only [with_, Nat.zero_add, hop j hj, Bool.false_or, decide_eq_false_iff_not]; omega) (by rw [List.length_erase_of_mem hiU]; omega) (hg.mono hle)
        (by
          rw [hsetf]
          intro j hj k hk
          simp only [with_, Nat.zero_add, Bool.or_eq_true, decide_eq_true_eq] at hj ⊢
          rcases hj with hj | rfl
          · exact .inl (hcl j hj k hk)
          · exact .inl (hbi k hk))
        (by rw [hsetf]; exact a1) hm rfl
      exact ⟨η2, F2, w2, Env.le_trans hle hle2, hs.trans hs2, g1, g2, g3, g4, g5, g6, g7⟩

/-- A drawn region, as far as its operations are drawn. -/
theorem draw_core (hC : CtrOk C I) (hpc : Holds I ρ pc) {s : St} {F : Frame} {Fs cs : List Frame} {w : World} {id : Nat} {ops : Array Oper} {K : List Item} (dd : Den C I ρ η S w0 s F Fs w) (ht : F.todo = .code (.region id ops true) :: K) (hmix : C.P.follows .mixedOrders = true)
    {recs : List Rec} {T' : List V} {H' : List O} (D : Drawn C pc ops (beforeL ops.toList []) s.H s.top.tmps recs) (h3 : T' = applyT s.top.tmps (recs.flatMap Rec.tl)) (h4 : H' = applyEff (s.H ++ List.replicate (4 * ops.size) .free) (recs.flatMap Rec.eff))
    (hlate : ∀ i, recs.length ≤ i → i < ops.size → ∀ j, j < i → j ∈ (beforeL ops.toList []).getD i []) (hn : Holds I ρ (recs.flatMap Rec.needs)) :
    ∃ η' F' w', η.le η' ∧ Steps C.P (lone F (Fs ++ cs) w) (lone F' (Fs ++ cs) w') ∧ F'.todo = .inRegion ops (List.range' recs.length (ops.size - recs.length)) :: K ∧ F'.mode = .run ∧
      ∀ (k : List TI) (F2 : Frame), F2.todo = F'.todo ∨ True → F2 = { F' with todo := F2.todo } → TI.denL (bodyOf C.P s.top.fn) η' k F2.todo → Den C I ρ η' S w0 { s with top := { s.top with tmps := T', todo := k }, H := dropFree H' } F2 Fs w' := by
  have hst := stepR_region_draw (P := C.P) (b := F) (a := ⟨F.tmps, F.defers⟩) (k := K) (cs := Fs ++ cs) (w := w) (ops := ops) (id := id)
  have e := frame_as dd.top.mode
  rw [ht] at e
  rw [← e] at hst
  have hrl := D.len
  have hsch : ∀ t, Region.schedule (C.P.follows .mixedOrders) ops t = Region.linearise.go .any ops ops.size t (Array.replicate ops.size false) [] := by
    intro t; simp only [Region.schedule, hmix, Bool.true_or, if_true]; rfl
  rw [hsch] at hst
  have hD0 : (fun j => (Array.replicate ops.size false).getD j false) = fun _ => false := by
    funext j
    simp only [Array.getD_eq_getD_getElem?, Array.getElem?_replicate]
    split <;> rfl
  have hp0 : ∀ {α : Type} (f : Rec → List (Nat × α)), pickR' f (fun _ => false) recs 0 = [] := by
    intro α f
    rw [List.eq_nil_iff_forall_not_mem]
    intro x hx
    obtain ⟨_, _, _, h, _⟩ := pick_mem.1 hx
    simp at h
  have hA : At C I ρ η S w0 s.H s.top.tmps ops.size recs (fun j => (Array.replicate ops.size false).getD j false) F.tmps { w with drawn := w.drawn + 1 } := by
    rw [hD0]
    refine ⟨by rw [hp0]; exact dd.top.tmps, ?_⟩
    rw [hp0]
    have m0 : Mem C.P I ρ η s.H S w0 { w with drawn := w.drawn + 1 } := ⟨dd.mem.free, dd.mem.obj, dd.mem.old, dd.mem.own, dd.mem.apart, ⟨dd.mem.keeps.os, dd.mem.keeps.tape, dd.mem.keeps.output, dd.mem.keeps.size, dd.mem.keeps.block⟩⟩
    exact m0.congrL (fun h => look_free _ _ h)
  obtain ⟨η', F', w', hle, hs, g1, g2, g3, g4, g5, g6, g7⟩ := draw_all (cs := Fs ++ cs) (K := K) hC hpc D hn hlate ops.size _ (Array.replicate ops.size false) (List.range recs.length) η
    (F.atR ⟨F.tmps, F.defers⟩ (.inRegion ops (Region.linearise.go .any ops ops.size (w.tape w.drawn (.order F.fn id)) (Array.replicate ops.size false) []) :: K)) { w with drawn := w.drawn + 1 }
    (by simp) List.nodup_range
    (fun j hj => by rw [congrFun hD0 j]; simp [hj]) (fun j hj => List.mem_range.1 hj) (fun j _ => congrFun hD0 j) (by simp; omega) dd.glob (by rw [hD0]; intro j hj; simp at hj) hA rfl rfl
  have hfull : ∀ {α : Type} (f : Rec → List (Nat × α)), pickR' f (fun _ => true) recs 0 = recs.flatMap f := by
    intro α f
    have key : ∀ (rs : List Rec) (i : Nat), pickR' f (fun _ => true) rs i = rs.flatMap f := by
      intro rs
      induction rs with
      | nil => intro i; rfl
      | cons r rs ih => intro i; simp [pickR', ih]
    exact key recs 0
  have a1 := g7.tmps
  have a2 := g7.mem
  rw [hfull] at a1 a2
  rw [← h3] at a1
  rw [← h4] at a2
  refine ⟨η', F', w', hle, Steps.head hst hs, g1, g4, fun k F2 _ hF2 hk => ⟨⟨?_, ?_, hk, ?_, ?_, ?_, ?_⟩, Fr.denL_mono hle _ _ dd.below, a2.congrL (fun h => look_dropFree _ h), dd.glob.mono hle⟩⟩
  · rw [hF2]; exact g2.trans dd.top.fn
  · rw [hF2]; exact a1
  · rw [hF2]; show defMarks _ _ F'.defers; rw [g3]; exact defMarks_mono hle _ _ dd.top.defs
  · rw [hF2]; exact g4
  · rw [hF2]; show F'.kind = _; rw [g5]; exact dd.top.kind
  · rw [hF2]
    show _
    rw [show ({ F' with todo := F2.todo } : Frame).roundOf = F.roundOf from g6]
    exact (Fr.den_mono hle dd.top).rnd

theorem lateD_late {bf : List (List Nat)} : ∀ (n i : Nat), lateD bf n ≤ i → i < n → ∀ j, j < i → j ∈ bf.getD i []
  | 0, i, _, h, _, _ => by omega
  | n + 1, i, h, hi, j, hj => by
    unfold lateD at h
    split at h
    · rename_i hall
      by_cases hin : i = n
      · subst hin
        simpa using List.all_eq_true.1 hall j (List.mem_range.2 hj)
      · exact lateD_late n i h (by omega) j hj
    · omega
theorem lateD_le {bf : List (List Nat)} : ∀ n : Nat, lateD bf n ≤ n
  | 0 => Nat.le_refl _
  | n + 1 => by
    unfold lateD
    split
    · exact Nat.le_trans (lateD_le n) (Nat.le_succ n)
    · exact Nat.le_refl _

theorem draw_ok (hC : CtrOk C I) : DrawOk C I := by
  intro ρ pc η S w0 w s F Fs cs id ops p k K hpc dd ht hcode hk
  unfold drawL
  have part : OutOk C I ρ η S w0 cs (botFn s.top s.below) (lone F (Fs ++ cs) w) (drawP C pc s ops.toList p k) := by
    unfold drawP
    split
    · trivial
    · rename_i hfol
      have hmix : C.P.follows .mixedOrders = true := by simpa using hfol
      simp only
      split
      · trivial
      · rename_i hbfn
        have hbf : bfOk ops.toList (beforeL ops.toList []) = true := by simpa using hbfn
        split
        · rename_i T' H' recs hops
          split
          · rename_i hpairs
            rw [Array.length_toList] at hops
            obtain ⟨h1, _, h3, h4, h5⟩ := drawOps_ok (T0 := s.top.tmps) (HB := s.H ++ List.replicate (4 * ops.size) .free) _ _ _ _ _ _ _ _ hops rfl rfl rfl
            have hle0 := lateD_le (bf := beforeL ops.toList []) ops.size
            have hrl : recs.length = lateD (beforeL ops.toList []) ops.size := by
              rw [h1, List.length_take, Array.length_toList, Nat.zero_add, Nat.min_eq_left hle0]
            have D : Drawn C pc ops (beforeL ops.toList []) s.H s.top.tmps recs := by
              refine ⟨by omega, hbf, ?_, hpairs⟩
              intro i o hi ho
              obtain ⟨r, hr1, hr2⟩ := h5 i o (by rw [List.getElem?_take, if_pos (by omega), Array.getElem?_toList]; exact ho)
              rw [Nat.zero_add] at hr1 hr2
              exact ⟨r, hr1, hr2⟩
            have main : Holds I ρ (recs.flatMap Rec.needs) → Nx C I ρ η S w0 cs (botFn s.top s.below) (lone F (Fs ++ cs) w) { s with top := { s.top with tmps := T', todo := .reg p (lateD (beforeL ops.toList []) ops.toList.length) :: k }, H := dropFree H' } := by
              intro hn
              obtain ⟨η', F', w', hle, hs, g1, g4, hden⟩ := draw_core (cs := cs) hC hpc dd ht hmix D h3 h4 (fun i hi his j hj => lateD_late ops.size i (by omega) his j hj) hn
              refine ⟨η', F', Fs, w', hle, hs, hden _ F' (.inl rfl) rfl ?_, ?_⟩
              · rw [g1]
                refine ⟨_, _, rfl, ⟨id, ops, true, hcode, ?_⟩, TI.denL_mono hle _ _ hk⟩
                rw [hrl, Array.length_toList]
              · exact botFn_top (f := { s.top with tmps := T', todo := .reg p (lateD (beforeL ops.toList []) ops.toList.length) :: k }) (g := s.top) rfl s.below
            split
            · rename_i hnil
              exact main (by rw [hnil]; intro c hc; simp at hc)
            · exact main
          · trivial
        · exact Nx.here dd
        · trivial
  have full : OutOk C I ρ η S w0 cs (botFn s.top s.below) (lone F (Fs ++ cs) w) (drawT C pc s ops.toList k) := by
    unfold drawT
    split
    · trivial
    · rename_i hfol
      have hmix : C.P.follows .mixedOrders = true := by simpa using hfol
      simp only
      split
      · trivial
      · rename_i hbfn
        have hbf : bfOk ops.toList (beforeL ops.toList []) = true := by simpa using hbfn
        split
        · rename_i T' H' recs hops
          split
          · rename_i hpairs
            rw [Array.length_toList] at hops
            obtain ⟨h1, _, h3, h4, h5⟩ := drawOps_ok (T0 := s.top.tmps) (HB := s.H ++ List.replicate (4 * ops.size) .free) _ _ _ _ _ _ _ _ hops rfl rfl rfl
            have hrl : recs.length = ops.size := by simpa using h1
            have D : Drawn C pc ops (beforeL ops.toList []) s.H s.top.tmps recs := by
              refine ⟨by omega, hbf, ?_, hpairs⟩
              intro i o _ ho
              obtain ⟨r, hr1, hr2⟩ := h5 i o (by rw [Array.getElem?_toList]; exact ho)
              rw [Nat.zero_add] at hr1 hr2
              exact ⟨r, hr1, hr2⟩
            have main : Holds I ρ (recs.flatMap Rec.needs) → Nx C I ρ η S w0 cs (botFn s.top s.below) (lone F (Fs ++ cs) w) { s with top := { s.top with tmps := T', todo := k }, H := dropFree H' } := by
              intro hn
              obtain ⟨η', F', w', hle, hs, g1, g4, hden⟩ := draw_core (cs := cs) hC hpc dd ht hmix D h3 h4 (fun i hi his => by omega) hn
              rw [hrl, Nat.sub_self] at g1
              have hst := mv (P := C.P) (cs := Fs ++ cs) (w := w') (w' := w') (K' := K) g4 g1 (fun b a _ _ => stepR_region_end)
              refine ⟨η', { F' with todo := K }, Fs, w', hle, hs.trans (Steps.one hst), hden _ { F' with todo := K } (.inr trivial) rfl (TI.denL_mono hle _ _ hk), ?_⟩
              exact botFn_top (f := { s.top with tmps := T', todo := k }) (g := s.top) rfl s.below
            split
            · rename_i hnil
              exact main (by rw [hnil]; intro c hc; simp at hc)
            · exact main
          · trivial
        · exact Nx.here dd
        · trivial
  split
  · exact part
  · rename_i r hr
    exact full

end
end Go.Sx
