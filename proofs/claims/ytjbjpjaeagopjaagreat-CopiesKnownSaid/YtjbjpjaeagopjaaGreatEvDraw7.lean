/- A region that draws: what one run in the order of the text says of every order. -/
import Derived.Test.YtjbjpjaeagopjaaGreatEvDraw6
import Derived.Test.YtjbjpjaeagopjaaGreatEvStk
set_option linter.unusedSimpArgs false
set_option linter.unusedVariables false
set_option linter.unusedSectionVars false
namespace Go.Proofs.YtjbjpjaeagopjaaGreat.Ev
open Go

variable [GTab] {P : Program} {W0 : World} [GOk W0] {N : Nat} {ops : Array Oper}
/-- What the pair's looked-at facts give. -/
structure Apt (p q : Pl) : Prop where
  a : ∀ id, p.out id ≠ p.view id → q.view id = none ∧ q.out id = none
  b : ∀ id, q.out id ≠ q.view id → p.view id = none ∧ p.out id = none
theorem mod_of {p : Pl} (hl : p.lives) {id : Nat} (h : p.out id ≠ p.view id) : (p.nx ≤ id ∧ id < p.nx') ∨ p.view id ≠ none := by
  cases hv : p.view id with
  | some o => exact .inr (by simp)
  | none =>
    cases ho : p.out id with
    | none => exact absurd (ho.trans hv.symm) h
    | some o =>
      rcases hl id o ho with q | ⟨o0, q⟩
      · exact .inl q
      · rw [hv] at q; cases q
theorem out_of {p : Pl} (hl : p.lives) {id : Nat} (h : p.out id ≠ none) : (p.nx ≤ id ∧ id < p.nx') ∨ p.view id ≠ none := by
  cases ho : p.out id with
  | none => exact absurd ho h
  | some o =>
    rcases hl id o ho with q | ⟨o0, q⟩
    · exact .inl q
    · exact .inr (by rw [q]; simp)
theorem none_of {α : Type} {x : Option α} (h : ¬ x ≠ none) : x = none := Classical.byContradiction h
/-- The pair: p stands first in the text. -/
theorem apt_of {p q : Pl} {a b : Rc} {nxN : Nat} (hp : p.lives) (hq : q.lives) (ra : RcOk (some a) p) (rb : RcOk (some b) q) (h : indB a b = true) (h1 : p.nx ≤ p.nx') (h2 : p.nx' ≤ q.nx) (h3 : q.nx ≤ q.nx') (h4 : q.nx' ≤ nxN)
    (hno : ∀ id, p.view id ≠ none → ¬ (p.nx ≤ id ∧ id < nxN)) : Apt p q := by
  obtain ⟨a1, a2, al, af⟩ := ra
  obtain ⟨b1, b2, bl, bf⟩ := rb
  unfold indB at h
  cases hfa : a.full with
  | true =>
    rw [hfa, cond_true] at h
    cases hfb : b.full with
    | true => rw [hfb] at h; cases h
    | false =>
      rw [hfb, cond_false] at h
      obtain ⟨v1, v2, v3⟩ := bl hfb
      have af := af hfa
      -- what b sees is not changed by a
      have see : ∀ id, p.out id ≠ p.view id → q.view id = none := fun id hm => by
        refine none_of fun hv => ?_
        have hid := v1 id hv
        cases hw : b.w with
        | true =>
          rw [hw, cond_true] at h
          cases hi : b.ids with
          | nil => rw [hi] at hid; cases hid
          | cons x r => rw [hi] at h; cases h
        | false =>
          rw [hw, cond_false] at h
          rcases allKept_ok h id hid with q | q
          · have := af.1 id hm
            omega
          · exact hm (((af.2 id).2.trans q.symm).trans (af.2 id).1.symm)
      have old : ∀ id, q.nx ≤ id → id < q.nx' → p.view id = none ∧ p.out id = none := fun id x y => by
        have hv : p.view id = none := none_of fun hv => hno id hv ⟨by omega, by omega⟩
        refine ⟨hv, none_of fun ho => ?_⟩
        rcases out_of hp ho with z | z
        · omega
        · exact z hv
      refine ⟨fun id hm => ⟨see id hm, none_of fun ho => ?_⟩, fun id hm => ?_⟩
      · rcases out_of hq ho with z | z
        · obtain ⟨o1, o2⟩ := old id z.1 z.2
          exact hm (o2.trans o1.symm)
        · exact z (see id hm)
      · cases hw : b.w with
        | false => exact absurd (v3 hw id) hm
        | true =>
          rw [hw, cond_true] at h
          rcases mod_of hq hm with z | z
          · exact old id z.1 z.2
          · have hid := v1 id z
            cases hi : b.ids with
            | nil => rw [hi] at hid; cases hid
            | cons x r => rw [hi] at h; cases h
  | false =>
    rw [hfa, cond_false] at h
    obtain ⟨u1, u2, u3⟩ := al hfa
    cases hfb : b.full with
    | true =>
      rw [hfb, cond_true] at h
      have bf := bf hfb
      cases hw : a.w with
      | true => rw [hw] at h; cases h
      | false =>
        rw [hw, cond_false] at h
        have u3 := u3 hw
        refine ⟨fun id hm => absurd (u3 id) hm, fun id hm => ?_⟩
        have hb := bf.1 id hm
        have hv : p.view id = none := none_of fun hv => by
          rcases allKept_ok h id (u1 id hv) with q | q
          · omega
          · exact hm (((bf.2 id).2.trans q.symm).trans (bf.2 id).1.symm)
        exact ⟨hv, (u3 id).trans hv⟩
    | false =>
      rw [hfb, cond_false] at h
      obtain ⟨v1, v2, v3⟩ := bl hfb
      cases hw : (a.w || b.w) with
      | false =>
        rw [Bool.or_eq_false_iff] at hw
        exact ⟨fun id hm => absurd (u3 hw.1 id) hm, fun id hm => absurd (v3 hw.2 id) hm⟩
      | true =>
        rw [hw, cond_true] at h
        have off := allOff_ok h
        have pin : ∀ id, ((p.nx ≤ id ∧ id < p.nx') ∨ p.view id ≠ none) → id ∉ b.ids ∧ id < p.nx' := fun id z => by
          rcases z with z | z
          · refine ⟨fun hb => ?_, z.2⟩
            have := (off id hb).2
            rw [a1, a2] at this
            omega
          · have ha := u1 id z
            exact ⟨fun hb => (off id hb).1 ha, by have := u2 id ha; omega⟩
        have qin : ∀ id, ((q.nx ≤ id ∧ id < q.nx') ∨ q.view id ≠ none) → id ∈ b.ids ∨ q.nx ≤ id := fun id z => by
          rcases z with z | z
          · exact .inr z.1
          · exact .inl (v1 id z)
        have no : ∀ id, ((p.nx ≤ id ∧ id < p.nx') ∨ p.view id ≠ none) → ((q.nx ≤ id ∧ id < q.nx') ∨ q.view id ≠ none) → False := fun id z z' => by
          have z1 := pin id z
          rcases qin id z' with y | y
          · exact z1.1 y
          · omega
        refine ⟨fun id hm => ⟨none_of fun hv => no id (mod_of hp hm) (.inr hv), none_of fun ho => no id (mod_of hp hm) (out_of hq ho)⟩, fun id hm => ⟨none_of fun hv => no id (.inr hv) (mod_of hq hm), none_of fun ho => no id (out_of hp ho) (mod_of hq hm)⟩⟩
theorem apt_none_left {p q : Pl} (h : RcOk none p) : Apt p q := ⟨fun id hm => absurd ((h id).2.trans (h id).1.symm) hm, fun id _ => h id⟩
theorem apt_none_right {p q : Pl} (h : RcOk none q) : Apt p q := ⟨fun id _ => h id, fun id hm => absurd ((h id).2.trans (h id).1.symm) hm⟩

theorem last_succ {β : Type} {w : Nat → Option β} {n i : Nat} (hi : i < n) (b : β) : last w (fun j => decide (j < i + 1)) (List.range n) b = (w i).getD (last w (fun j => decide (j < i)) (List.range n) b) :=
  last_put hi (fun j => by
    by_cases e : j = i
    · subst e; simp
    · rw [if_neg e]
      by_cases q : j < i
      · simp [q, Nat.lt_succ_of_lt q]
      · simp [q]; omega) (fun j h1 _ h2 => by simp at h2; omega) b

/-- The region, from every frame and world that are so, comes to what is given. -/
def RegOk (P : Program) (W0 : World) (N : Nat) (ops : Array Oper) (draw : Bool) (fr : Tr SV) (h : HS) (fr' : Tr SV) (h' : HS) : Prop :=
  ∀ ro id E a w, Rel W0 E h.hp.get w → Free E h.nx h'.nx h.ne h'.ne → FrOk E fr N a → ∀ Q : Exit → Act → World → Prop,
    (∀ E' a' w', Rel W0 E' h'.hp.get w' → Step h.bar h.hp.get h.nx h'.nx h.ne h'.ne E E' w w' → FrOk E' fr' N a' → Q .normal a' w') → (Code.region id ops draw).wpIn (Fw ro) 0 P Q a w

theorem reg_of_sf (hm : P.follows .mixedOrders = true) (hok : drawOk ops = true) {p : Nat → Pl} {F : Nat → Tr SV} {H : Nat → HS} {R : Tr Rc} (S : ∀ m, m < ops.size → SF P W0 N ops m (p m) (F m) (F (m + 1)) (H m) (H (m + 1)) (R.get m))
    (hpairs : ∀ i j a b, (i, j) ∈ dynPairs ops → R.get i = some a → R.get j = some b → indB a b = true) : Goes (H 0) (H ops.size) ∧ RegOk P W0 N ops true (F 0) (H 0) (F ops.size) (H ops.size) := by
  have goes : ∀ m, m ≤ ops.size → Goes (H 0) (H m) := by
    intro m
    induction m with
    | zero => intro _; exact Goes.refl _
    | succ m ih => intro hm; exact (ih (by omega)).trans (S m hm).goes
  have mono : ∀ d m, m + d ≤ ops.size → (H m).nx ≤ (H (m + d)).nx ∧ (H m).ne ≤ (H (m + d)).ne := by
    intro d
    induction d with
    | zero => intro m _; exact ⟨Nat.le_refl _, Nat.le_refl _⟩
    | succ d ih =>
      intro m hm
      have h1 := ih m (by omega)
      have h2 := (S (m + d) (by omega)).goes
      exact ⟨Nat.le_trans h1.1 h2.nx, Nat.le_trans h1.2 h2.ne⟩
  have mono' : ∀ i j, i ≤ j → j ≤ ops.size → (H i).nx ≤ (H j).nx ∧ (H i).ne ≤ (H j).ne := fun i j h1 h2 => by
    have := mono (j - i) i (by omega)
    rwa [show i + (j - i) = j by omega] at this
  have lexF : ∀ i, i ≤ ops.size → ∀ t, (F i).get t = last (wF ops p t) (fun j => decide (j < i)) (List.range ops.size) ((F 0).get t) := by
    intro i
    induction i with
    | zero => intro _ t; exact (last_same _ _ fun j _ hu => by simp at hu).symm
    | succ i ih =>
      intro hi t
      rw [last_succ hi, ← ih (by omega) t, (S i hi).frame, get_putD]
      rfl
  have lexH : ∀ i, i ≤ ops.size → ∀ id, (H i).hp.get id = last (wH p id) (fun j => decide (j < i)) (List.range ops.size) ((H 0).hp.get id) := by
    intro i
    induction i with
    | zero => intro _ id; exact (last_same _ _ fun j _ hu => by simp at hu).symm
    | succ i ih =>
      intro hi id
      rw [last_succ hi, ← ih (by omega) id, (S i hi).eq]
      unfold ov wH
      split <;> rfl
  refine ⟨goes _ (Nat.le_refl _), fun ro id E a w r fe fo Q hQ => ?_⟩
  have no0 : ∀ i, i ≤ ops.size → ∀ id, (H i).hp.get id ≠ none → ¬ ((H i).nx ≤ id ∧ id < (H ops.size).nx) := fun i hi id hne hin => by
    cases ho : (H i).hp.get id with
    | none => exact hne ho
    | some o =>
      rcases (goes i hi).live id o ho with q | ⟨o0, q⟩
      · omega
      · obtain ⟨s, e, _⟩ := r.obj id o0 q
        have := (goes i hi).nx
        rw [fe.at_ id (by omega) hin.2] at e
        cases e
  have apt : ∀ i j, i < j → j < ops.size → ¬ Bef ops i j → Apt (p i) (p j) := by
    intro i j hij hj hn
    have si := S i (by omega)
    have sj := S j hj
    have oi : ops[i]? = some ops[i] := Array.getElem?_eq_getElem (by omega)
    have oj : ops[j]? = some ops[j] := Array.getElem?_eq_getElem hj
    have ri := si.rcok
    have rj := sj.rcok
    cases ha : R.get i with
    | none => rw [ha] at ri; exact apt_none_left ri
    | some a =>
      cases hb : R.get j with
      | none => rw [hb] at rj; exact apt_none_right rj
      | some b =>
        rw [ha] at ri
        rw [hb] at rj
        have c1 : cls (ops[i]'(by omega)).op ≠ 0 := fun e => by
          have := si.pure _ oi e
          rw [ha] at this
          cases this
        have c2 : cls ops[j].op ≠ 0 := fun e => by
          have := sj.pure _ oj e
          rw [hb] at this
          cases this
        cases hmeet : meet (cls (ops[i]'(by omega)).op) (cls ops[j].op) with
        | true =>
          have := hpairs i j a b (dynPairs_mem oi oj hij hmeet hn) ha hb
          refine apt_of (nxN := (H ops.size).nx) si.lives sj.lives ri rj this ?_ ?_ ?_ ?_ fun id hv => ?_
          · rw [si.nx, si.nx']; exact si.goes.nx
          · rw [si.nx', sj.nx]; exact (mono' (i + 1) j hij (by omega)).1
          · rw [sj.nx, sj.nx']; exact sj.goes.nx
          · rw [sj.nx']; exact (mono' (j + 1) _ (by omega) (Nat.le_refl _)).1
          · rw [si.nx]
            refine no0 i (by omega) id fun hz => hv ?_
            cases hx : (p i).view id with
            | none => rfl
            | some o =>
              have := si.sub id o hx
              rw [hz] at this
              cases this
        | false =>
          have e1 : cls (ops[i]'(by omega)).op = 1 ∧ cls ops[j].op = 1 := by
            revert hmeet c1 c2
            generalize cls (ops[i]'(by omega)).op = x
            generalize cls ops[j].op = y
            intro c1 c2 hmeet
            unfold meet at hmeet
            split at hmeet
            · exact absurd rfl c1
            · exact absurd rfl c2
            · exact ⟨rfl, rfl⟩
            · cases hmeet
          obtain ⟨w1, f1⟩ := si.read _ oi e1.1 a ha
          obtain ⟨w2, f2⟩ := sj.read _ oj e1.2 b hb
          exact ⟨fun id hm => absurd ((ri.2.2.1 f1).2.2 w1 id) hm, fun id hm => absurd ((rj.2.2.1 f2).2.2 w2 id) hm⟩
  have D : Draw P W0 N ops p F (H 0).hp.get (F 0) (H 0).bar (H 0).nx (H ops.size).nx (H 0).ne (H ops.size).ne :=
    { ok := fun i hi => (S i hi).pl
      lives := fun i hi => (S i hi).lives
      lexF := fun i hi t => lexF i (by omega) t
      lexH := fun i hi id o hv => by
        rw [← lexH i (by omega) id]
        exact (S i hi).sub id o hv
      ind := fun i j hi hj hne h1 h2 => by
        rcases Nat.lt_or_gt_of_ne hne with q | q
        · exact (apt i j q hj h1).a
        · exact (apt j i q hi h2).b
      apart := drawOk_apart hok
      inN := fun i hi => (S i hi).inN
      nx := fun i j hij hj => by
        rw [(S i (by omega)).nx', (S j hj).nx]
        exact (mono' (i + 1) j hij (by omega)).1
      ne := fun i j hij hj => by
        rw [(S i (by omega)).ne', (S j hj).ne]
        exact (mono' (i + 1) j hij (by omega)).2
      box := fun i hi => by
        have s := S i hi
        rw [s.nx, s.nx', s.ne, s.ne']
        have m1 := mono' 0 i (by omega) (by omega)
        have m2 := mono' (i + 1) ops.size (by omega) (Nat.le_refl _)
        refine ⟨m1.1, s.goes.nx, m2.1, m1.2, s.goes.ne, m2.2, ?_⟩
        rw [← (goes i (by omega)).bar]
        exact s.bar
      edge := drawOk_edge hok }
  refine draw_region hm D r fe fo fun E' a' w' r' st f' => hQ E' a' w' ?_ st (f'.of_get fun t => ?_)
  · have e : gU ops p (H 0).hp.get (fun _ => true) = (H ops.size).hp.get := by
      funext id
      rw [lexH ops.size (Nat.le_refl _) id]
      exact last_congr _ _ fun j hj _ => by simpa using List.mem_range.1 hj
    rw [← e]
    exact r'
  · rw [get_frL, lexF ops.size (Nat.le_refl _) t]
    exact last_congr _ _ fun j hj _ => by simpa using List.mem_range.1 hj
theorem drawRC_ok {call : CallK} (hc : CallSound P W0 call) (hm : P.follows .mixedOrders = true) (hok : drawOk ops = true) {K : Nat} (hin : drawIn K ops ops.toList = true) {fr frT : Tr SV} (ag : ∀ t, Nat.testBit K t = true → opd fr (.tmp t) = opd frT (.tmp t)) {h : HS} {k : Tr SV → HS → Bool} (hk : (drawRC P N ops).f call fr h k = true) :
    ∃ fr' frT' h', k fr' h' = true ∧ (∀ t, Nat.testBit K t = true → opd fr' (.tmp t) = opd frT' (.tmp t)) ∧ Goes h h' ∧ RegOk P W0 N ops true frT h frT' h' := by
  unfold drawRC at hk
  rw [Cl.then_eq] at hk
  have fin : ∀ (k' : Tr SV → HS → Tr Rc → Bool), (drawC P N ops ops.toList 0).f call fr h .e k' = true → (∀ fr' h' R, k' fr' h' R = true → k fr' h' = true ∧ ∀ i j a b, (i, j) ∈ dynPairs ops → R.get i = some a → R.get j = some b → indB a b = true) →
      ∃ fr' frT' h', k fr' h' = true ∧ (∀ t, Nat.testBit K t = true → opd fr' (.tmp t) = opd frT' (.tmp t)) ∧ Goes h h' ∧ RegOk P W0 N ops true frT h frT' h' := by
    intro k' hk hk'
    obtain ⟨p, F, H, R, k1, f0, h0, _, S⟩ := drawC_ok (W0 := W0) hc ops.toList 0 fr h .e k' (Nat.zero_le _) (by simp) (fun m _ => rfl) hk
    obtain ⟨k2, k3⟩ := hk' _ _ _ k1
    let FT : Nat → Tr SV := fun n => Nat.rec frT (fun m x => putD (dstOf ops m) (p m).sv x) n
    have agF : ∀ m, m ≤ ops.size → ∀ t, Nat.testBit K t = true → opd (F m) (.tmp t) = opd (FT m) (.tmp t) := by
      intro m
      induction m with
      | zero => intro _ t ht; rw [f0]; exact ag t ht
      | succ m ih =>
        intro hm t ht
        rw [(S m (Nat.zero_le _) (by omega)).frame]
        show opd (putD (dstOf ops m) (p m).sv (F m)) (.tmp t) = opd (putD (dstOf ops m) (p m).sv (FT m)) (.tmp t)
        cases hd : dstOf ops m with
        | none => exact ih (by omega) t ht
        | some d =>
          show opd ((F m).put d (some (p m).sv)) (.tmp t) = opd ((FT m).put d (some (p m).sv)) (.tmp t)
          rw [opd_put, opd_put]
          split
          · rfl
          · exact ih (by omega) t ht
    have ST : ∀ m, m < ops.size → SF P W0 N ops m (p m) (FT m) (FT (m + 1)) (H m) (H (m + 1)) (R.get m) := fun m hm => by
      have s := S m (Nat.zero_le _) hm
      refine { s with pl := fun ro fr' E a w hs => s.pl ro fr' E a w fun o ho => ?_, frame := rfl }
      obtain ⟨q1, q2⟩ := drawIn_ok hin (agF m (by omega)) o (by
        have := List.mem_of_getElem? (l := ops.toList) (i := m) (a := o) (by simpa using ho)
        exact this)
      obtain ⟨p1, p2⟩ := hs o ho
      exact ⟨fun x hx => (q1 x hx).trans (p1 x hx), fun g want t a b => (q2 g want t a b).trans (p2 g want t a b)⟩
    have := reg_of_sf hm hok ST k3
    rw [h0] at this
    exact ⟨_, _, _, k2, agF _ (Nat.le_refl _), this⟩
  cases hd : dynPairs ops with
  | nil =>
    rw [hd] at hk
    refine fin _ hk fun fr' h' R e => ⟨e, fun i j a b hmem => ?_⟩
    rw [hd] at hmem
    cases hmem
  | cons x r =>
    rw [hd] at hk
    refine fin _ hk fun fr' h' R e => ?_
    obtain ⟨e1, e2⟩ := bif_true e
    rw [← hd] at e1
    exact ⟨e2, pairsOk_ok e1⟩
end Go.Proofs.YtjbjpjaeagopjaaGreat.Ev
