/- The law. -/
import Derived.Test.YtgoccionghehoaaGreatDoorPe8
import Derived.Test.YtgoccionghehoaaGreatDoorPeS0
import Derived.Test.YtgoccionghehoaaGreatDoorPeS1
import Derived.Test.YtgoccionghehoaaGreatDoorPeS2
import Derived.Test.YtgoccionghehoaaGreatDoorPeS3
import Derived.Test.YtgoccionghehoaaGreatDoorPeS4
import Derived.Test.YtgoccionghehoaaGreatDoorPeS5
import Derived.Test.YtgoccionghehoaaGreatDoorPeS6
set_option linter.unusedSimpArgs false
set_option linter.unusedVariables false
set_option linter.unusedSectionVars false
namespace Go.Proofs.YtgoccionghehoaaGreatDoor.Ev
open Go Go.Proofs

variable {W0 : World} [GOk W0]
variable {A B C : Int}
noncomputable def cellsX (to : Int) (x : Pn.In) : List SV := binL (I x.k) to (I x.a.r, I x.a.i) (I x.b.r, I x.b.i)
theorem inOf_K {to : Int} {x : Pn.In} (h : x.op = 2) : inOf (cellsX to x) = x := by
  obtain ⟨op, k, ⟨ar, ai⟩, ⟨br, bi⟩⟩ := x
  have h : op = 2 := h
  subst h
  rfl
theorem kndL_K {to : Int} {x : Pn.In} : kndL (cellsX to x) = binL (knd x.k) to (I x.a.r, I x.a.i) (I x.b.r, I x.b.i) := rfl
theorem le_knd {m to : Int} {x : Pn.In} (h2 : x.op = 2) (h : Pn.IOk m x) : LeL (cellsX to x) (kndL (cellsX to x)) := by
  rw [kndL_K]
  obtain ⟨k1, k2, _⟩ := h.k1 h2
  exact .cons Le.rfl (.cons (Le.rng k1 k2) LeL.rfl)
theorem le_enc {m to : Int} {x : Pn.In} (hm : m ≤ 3) (h2 : x.op = 2) (h : Pn.IOk m x) : LeL (kndL (cellsX to x)) (enc x.op to x) := by
  rw [kndL_K]
  obtain ⟨k1, k2, b⟩ := h.k1 h2
  have e1 : Le (knd x.k) (.rng 0 14 x.k) := fun E v e => by
    simp only [knd, val] at e ⊢
    rw [if_pos ⟨k1, k2⟩] at e
    rw [if_pos ⟨by omega, k2⟩]
    exact e
  have ha := h.a
  have e4 : I x.op = I 2 := by rw [h2]
  unfold enc cI binL
  rw [e4]
  exact .cons Le.rfl (.cons e1 (.cons Le.rfl (.cons (Le.rng ha.lo (by have := ha.hi; omega)) (.cons Le.rfl (.cons (Le.rng b.lo (by have := b.hi; omega)) LeL.rfl)))))
theorem le_enc2 {m to : Int} {x : Pn.In} (hm : m ≤ 3) (h2 : x.op = 2) (h : Pn.IOk m x) : LeL (kndL (cellsX to x)) (enc2 to x) := by
  rw [kndL_K]
  obtain ⟨k1, k2, b⟩ := h.k1 h2
  have ha := h.a
  unfold enc2 cI binL
  exact .cons Le.rfl (.cons Le.rfl (.cons Le.rfl (.cons (Le.rng ha.lo (by have := ha.hi; omega)) (.cons Le.rfl (.cons (Le.rng b.lo (by have := b.hi; omega)) LeL.rfl)))))
theorem pl_K (x y : Pn.In) : trAll (soPl pEc) (HCi noOld A B C (kndL (cellsX 3 x)) (kndL (cellsX 4 y))) = true := by kernel_rfl
theorem old_K (x y : Pn.In) : trAll (soPl fun i => Nat.blt i 29) (oldH (Old6 A B C (kndL (cellsX 3 x)) (kndL (cellsX 4 y)))) = true := by kernel_rfl
theorem g6_sub (c3 c4 : List SV) (F : Pn.St) (id : Nat) (o : SO) (e : (g6 A B C c3 c4 F).get id = some o) : (hF A B C c3 c4 F).hp.get id = some o := by
  have m := HG_ids e
  rw [← e]
  simp only [hgL, List.mem_cons, List.not_mem_nil, or_false] at m
  obtain ⟨Fx, Fy, Fu⟩ := F
  rcases m with rfl | rfl | rfl | rfl | rfl | rfl | rfl | rfl <;> rfl
theorem old_le {c3 c4 c3' c4' : List SV} (h3 : LeL c3 c3') (h4 : LeL c4 c4') : ∀ id o, (oldH (Old6 A B C c3' c4')).get id = some o → ∃ o2, (oldH (Old6 A B C c3 c4)).get id = some o2 ∧ ∀ (E : Env) (s : Spot) (w : World), objOk E s w o2 → objOk E s w o := fun id o h => by
  by_cases q : id = 26
  · subst q
    exact code_le h3 h4 (show codeG c3' c4' = some o from h)
  refine ⟨o, ?_, fun _ _ _ k => k⟩
  rw [← h]
  unfold oldH
  simp only [Tr.get_put, if_neg q]
  rfl
theorem leaf_ok {x y : Pn.In} {Q : Bool} (hA : Pn.R A) (hB : Pn.R B) (hC : Pn.R C) (hx : x.op = 2) (hy : y.op = 2) (j : Pn.JOk A B C x y) (hS : Seen6 W0 A B C (kndL (cellsX 3 x)) (kndL (cellsX 4 y))) (hQ : Q = true) (h9 : grdA Tryz.prog W0 9 [] (.bool true) = true) : leaf W0 A B C Q (cellsX 3 x) (cellsX 4 y) = true := by
  have c := call6 (W0 := W0) hA hB hC j (le_enc (by decide) hx j.x) (le_enc (by decide) hy j.y) (pl_K x y) (old_K x y) hS
  have fin := Pn.pass_fin hA hB hC (s := ⟨x, y, none⟩) j
  have e1 : inOf (cellsX 3 x) = x := inOf_K hx
  have e2 : inOf (cellsX 4 y) = y := inOf_K hy
  unfold leaf
  rw [e1, e2]
  have c' : CallOk Tryz.prog W0 6 A6 ⟨oldH (Old6 A B C (cellsX 3 x) (cellsX 4 y)), 29, 0, 29⟩ ⟨g6 A B C (kndL (cellsX 3 x)) (kndL (cellsX 4 y)) (Pn.pass ⟨x, y, none⟩), 60, 0, 29⟩ (svF (Pn.pass ⟨x, y, none⟩)) := by
    have c1 := c.less (h'' := ⟨g6 A B C (kndL (cellsX 3 x)) (kndL (cellsX 4 y)) (Pn.pass ⟨x, y, none⟩), 60, 0, 29⟩) (g6_sub _ _ _) (Nat.le_refl _) (Nat.le_refl _) (show 29 ≤ 60 by decide) (Nat.le_refl _)
    have le := old_le (A := A) (B := B) (C := C) (le_knd (to := 3) hx j.x) (le_knd (to := 4) hy j.y)
    exact c1.pre (fun E w r => rel_le le r) fun id o h => by
      obtain ⟨o2, h2, _⟩ := le id o h
      exact ⟨o2, h2⟩
  have d8 : D8 W0 A B C (cellsX 3 x) (cellsX 4 y) (Pn.pass ⟨x, y, none⟩) = true :=
    dec_true.2 (agree_at hx hy (j.x.mono (by decide)) j.y (fin.j.x.mono (by decide)) fin.j.y fin.r (le_enc2 (by decide) hx j.x) (le_enc2 (by decide) hy j.y))
  simp only []
  rw [d8, h9, hQ]
  revert c'
  generalize Pn.pass ⟨x, y, none⟩ = F
  intro c'
  obtain ⟨Fx, Fy, Fu⟩ := F
  cases Fu with
  | none => exact dec_true.2 c'
  | some n => exact dec_true.2 c'
theorem kK_1 {K : Int} (h : 0 ≤ K ∧ K ≤ 255) : 1 ≤ kK K ∧ kK K ≤ 14 := by
  have e : IntKind.i64.wrap K = K := Pn.W_of (by rw [Pn.R]; omega)
  unfold kK
  rw [e, Int.tmod_eq_emod_of_nonneg h.1, show IntKind.i64.wrap (1 + K % 14) = 1 + K % 14 from Pn.W_of (by rw [Pn.R]; omega)]
  omega
theorem ok0 : Pn.OOk 2 ⟨0, 0⟩ := ⟨by decide, by decide, by rw [Pn.R]; decide, fun _ => rfl⟩
theorem ok1' : Pn.OOk 2 ⟨1, 0⟩ := ⟨by decide, by decide, by rw [Pn.R]; decide, fun _ => rfl⟩
theorem ok2' : Pn.OOk 2 ⟨2, 0⟩ := ⟨by decide, by decide, by rw [Pn.R]; decide, fun _ => rfl⟩
theorem ok3' : Pn.OOk 3 ⟨3, 0⟩ := ⟨by decide, by decide, by rw [Pn.R]; decide, fun _ => rfl⟩
theorem okc {m v : Int} (hm : -1 ≤ m) (h : Pn.R v) : Pn.OOk m ⟨-1, v⟩ := ⟨Int.le_refl _, hm, h, fun q => absurd q (show ¬ (0 : Int) ≤ -1 by decide)⟩
theorem j_of {k n : Int} (hk : 1 ≤ k ∧ k ≤ 14) (hn : 1 ≤ n ∧ n ≤ 14) {a b c d : Pn.Op} (ha : Pn.OOk 2 a) (hb : Pn.OOk 2 b) (hc : Pn.OOk 3 c) (hd : Pn.OOk 3 d) : Pn.JOk A B C ⟨2, k, a, b⟩ ⟨2, n, c, d⟩ :=
  ⟨⟨.inr rfl, fun h => absurd h (show ¬ (2 : Int) = 1 by decide), fun _ => ⟨hk.1, hk.2, hb⟩, ha⟩, ⟨.inr rfl, fun h => absurd h (show ¬ (2 : Int) = 1 by decide), fun _ => ⟨hn.1, hn.2, hd⟩, hc⟩⟩
theorem tree3_ok (h9 : grdA Tryz.prog W0 9 [] (.bool true) = true) {K N : Int} (hk : 1 ≤ kK K ∧ kK K ≤ 14) (hn : 1 ≤ kK N ∧ kK N ≤ 14) (hA : Pn.R A) (hB : Pn.R B) (hC : Pn.R C) (kn : Int) {Q : Bool} (hQ : Q = true) : tree3 W0 K N A B C kn Q = true := by
  unfold tree3
  refine bif_i (fun _ => ?_) (fun _ => ?_)
  · refine bif_i (fun _ => ?_) (fun _ => ?_)
    · refine bif_i (fun _ => ?_) (fun _ => ?_)
      · refine bif_i (fun _ => ?_) (fun _ => ?_)
        · refine bif_i (fun _ => ?_) (fun _ => ?_)
          · exact leaf_ok (x := ⟨2, kK K, ⟨-1, A⟩, ⟨-1, B⟩⟩) (y := ⟨2, kK N, ⟨-1, C⟩, ⟨-1, C⟩⟩) hA hB hC rfl rfl (j_of hk hn (okc (by decide) hA) (okc (by decide) hB) (okc (by decide) hC) (okc (by decide) hC)) (sh27 A B C (kK K) (kK N)) hQ h9
          · exact leaf_ok (x := ⟨2, kK K, ⟨-1, A⟩, ⟨-1, B⟩⟩) (y := ⟨2, kK N, ⟨-1, C⟩, ⟨3, 0⟩⟩) hA hB hC rfl rfl (j_of hk hn (okc (by decide) hA) (okc (by decide) hB) (okc (by decide) hC) ok3') (sh15 A B C (kK K) (kK N)) hQ h9
        · refine bif_i (fun _ => ?_) (fun _ => ?_)
          · exact leaf_ok (x := ⟨2, kK K, ⟨-1, A⟩, ⟨-1, B⟩⟩) (y := ⟨2, kK N, ⟨3, 0⟩, ⟨3, 0⟩⟩) hA hB hC rfl rfl (j_of hk hn (okc (by decide) hA) (okc (by decide) hB) ok3' ok3') (sh19 A B C (kK K) (kK N)) hQ h9
          · exact leaf_ok (x := ⟨2, kK K, ⟨-1, A⟩, ⟨-1, B⟩⟩) (y := ⟨2, kK N, ⟨3, 0⟩, ⟨-1, C⟩⟩) hA hB hC rfl rfl (j_of hk hn (okc (by decide) hA) (okc (by decide) hB) ok3' (okc (by decide) hC)) (sh7 A B C (kK K) (kK N)) hQ h9
      · refine bif_i (fun _ => ?_) (fun _ => ?_)
        · refine bif_i (fun _ => ?_) (fun _ => ?_)
          · exact leaf_ok (x := ⟨2, kK K, ⟨-1, A⟩, ⟨-1, B⟩⟩) (y := ⟨2, kK N, ⟨2, 0⟩, ⟨2, 0⟩⟩) hA hB hC rfl rfl (j_of hk hn (okc (by decide) hA) (okc (by decide) hB) (ok2'.mono (by decide)) (ok2'.mono (by decide))) (sh23 A B C (kK K) (kK N)) hQ h9
          · exact leaf_ok (x := ⟨2, kK K, ⟨-1, A⟩, ⟨-1, B⟩⟩) (y := ⟨2, kK N, ⟨2, 0⟩, ⟨3, 0⟩⟩) hA hB hC rfl rfl (j_of hk hn (okc (by decide) hA) (okc (by decide) hB) (ok2'.mono (by decide)) ok3') (sh11 A B C (kK K) (kK N)) hQ h9
        · refine bif_i (fun _ => ?_) (fun _ => ?_)
          · exact leaf_ok (x := ⟨2, kK K, ⟨-1, A⟩, ⟨-1, B⟩⟩) (y := ⟨2, kK N, ⟨3, 0⟩, ⟨3, 0⟩⟩) hA hB hC rfl rfl (j_of hk hn (okc (by decide) hA) (okc (by decide) hB) ok3' ok3') (sh19 A B C (kK K) (kK N)) hQ h9
          · exact leaf_ok (x := ⟨2, kK K, ⟨-1, A⟩, ⟨-1, B⟩⟩) (y := ⟨2, kK N, ⟨3, 0⟩, ⟨2, 0⟩⟩) hA hB hC rfl rfl (j_of hk hn (okc (by decide) hA) (okc (by decide) hB) ok3' (ok2'.mono (by decide))) (sh3 A B C (kK K) (kK N)) hQ h9
    · refine bif_i (fun _ => ?_) (fun _ => ?_)
      · refine bif_i (fun _ => ?_) (fun _ => ?_)
        · refine bif_i (fun _ => ?_) (fun _ => ?_)
          · exact leaf_ok (x := ⟨2, kK K, ⟨-1, A⟩, ⟨1, 0⟩⟩) (y := ⟨2, kK N, ⟨-1, C⟩, ⟨-1, C⟩⟩) hA hB hC rfl rfl (j_of hk hn (okc (by decide) hA) ok1' (okc (by decide) hC) (okc (by decide) hC)) (sh25 A B C (kK K) (kK N)) hQ h9
          · exact leaf_ok (x := ⟨2, kK K, ⟨-1, A⟩, ⟨1, 0⟩⟩) (y := ⟨2, kK N, ⟨-1, C⟩, ⟨3, 0⟩⟩) hA hB hC rfl rfl (j_of hk hn (okc (by decide) hA) ok1' (okc (by decide) hC) ok3') (sh13 A B C (kK K) (kK N)) hQ h9
        · refine bif_i (fun _ => ?_) (fun _ => ?_)
          · exact leaf_ok (x := ⟨2, kK K, ⟨-1, A⟩, ⟨1, 0⟩⟩) (y := ⟨2, kK N, ⟨3, 0⟩, ⟨3, 0⟩⟩) hA hB hC rfl rfl (j_of hk hn (okc (by decide) hA) ok1' ok3' ok3') (sh17 A B C (kK K) (kK N)) hQ h9
          · exact leaf_ok (x := ⟨2, kK K, ⟨-1, A⟩, ⟨1, 0⟩⟩) (y := ⟨2, kK N, ⟨3, 0⟩, ⟨-1, C⟩⟩) hA hB hC rfl rfl (j_of hk hn (okc (by decide) hA) ok1' ok3' (okc (by decide) hC)) (sh5 A B C (kK K) (kK N)) hQ h9
      · refine bif_i (fun _ => ?_) (fun _ => ?_)
        · refine bif_i (fun _ => ?_) (fun _ => ?_)
          · exact leaf_ok (x := ⟨2, kK K, ⟨-1, A⟩, ⟨1, 0⟩⟩) (y := ⟨2, kK N, ⟨2, 0⟩, ⟨2, 0⟩⟩) hA hB hC rfl rfl (j_of hk hn (okc (by decide) hA) ok1' (ok2'.mono (by decide)) (ok2'.mono (by decide))) (sh21 A B C (kK K) (kK N)) hQ h9
          · exact leaf_ok (x := ⟨2, kK K, ⟨-1, A⟩, ⟨1, 0⟩⟩) (y := ⟨2, kK N, ⟨2, 0⟩, ⟨3, 0⟩⟩) hA hB hC rfl rfl (j_of hk hn (okc (by decide) hA) ok1' (ok2'.mono (by decide)) ok3') (sh9 A B C (kK K) (kK N)) hQ h9
        · refine bif_i (fun _ => ?_) (fun _ => ?_)
          · exact leaf_ok (x := ⟨2, kK K, ⟨-1, A⟩, ⟨1, 0⟩⟩) (y := ⟨2, kK N, ⟨3, 0⟩, ⟨3, 0⟩⟩) hA hB hC rfl rfl (j_of hk hn (okc (by decide) hA) ok1' ok3' ok3') (sh17 A B C (kK K) (kK N)) hQ h9
          · exact leaf_ok (x := ⟨2, kK K, ⟨-1, A⟩, ⟨1, 0⟩⟩) (y := ⟨2, kK N, ⟨3, 0⟩, ⟨2, 0⟩⟩) hA hB hC rfl rfl (j_of hk hn (okc (by decide) hA) ok1' ok3' (ok2'.mono (by decide))) (sh1 A B C (kK K) (kK N)) hQ h9
  · refine bif_i (fun _ => ?_) (fun _ => ?_)
    · refine bif_i (fun _ => ?_) (fun _ => ?_)
      · refine bif_i (fun _ => ?_) (fun _ => ?_)
        · refine bif_i (fun _ => ?_) (fun _ => ?_)
          · exact leaf_ok (x := ⟨2, kK K, ⟨0, 0⟩, ⟨-1, B⟩⟩) (y := ⟨2, kK N, ⟨-1, C⟩, ⟨-1, C⟩⟩) hA hB hC rfl rfl (j_of hk hn ok0 (okc (by decide) hB) (okc (by decide) hC) (okc (by decide) hC)) (sh26 A B C (kK K) (kK N)) hQ h9
          · exact leaf_ok (x := ⟨2, kK K, ⟨0, 0⟩, ⟨-1, B⟩⟩) (y := ⟨2, kK N, ⟨-1, C⟩, ⟨3, 0⟩⟩) hA hB hC rfl rfl (j_of hk hn ok0 (okc (by decide) hB) (okc (by decide) hC) ok3') (sh14 A B C (kK K) (kK N)) hQ h9
        · refine bif_i (fun _ => ?_) (fun _ => ?_)
          · exact leaf_ok (x := ⟨2, kK K, ⟨0, 0⟩, ⟨-1, B⟩⟩) (y := ⟨2, kK N, ⟨3, 0⟩, ⟨3, 0⟩⟩) hA hB hC rfl rfl (j_of hk hn ok0 (okc (by decide) hB) ok3' ok3') (sh18 A B C (kK K) (kK N)) hQ h9
          · exact leaf_ok (x := ⟨2, kK K, ⟨0, 0⟩, ⟨-1, B⟩⟩) (y := ⟨2, kK N, ⟨3, 0⟩, ⟨-1, C⟩⟩) hA hB hC rfl rfl (j_of hk hn ok0 (okc (by decide) hB) ok3' (okc (by decide) hC)) (sh6 A B C (kK K) (kK N)) hQ h9
      · refine bif_i (fun _ => ?_) (fun _ => ?_)
        · refine bif_i (fun _ => ?_) (fun _ => ?_)
          · exact leaf_ok (x := ⟨2, kK K, ⟨0, 0⟩, ⟨-1, B⟩⟩) (y := ⟨2, kK N, ⟨2, 0⟩, ⟨2, 0⟩⟩) hA hB hC rfl rfl (j_of hk hn ok0 (okc (by decide) hB) (ok2'.mono (by decide)) (ok2'.mono (by decide))) (sh22 A B C (kK K) (kK N)) hQ h9
          · exact leaf_ok (x := ⟨2, kK K, ⟨0, 0⟩, ⟨-1, B⟩⟩) (y := ⟨2, kK N, ⟨2, 0⟩, ⟨3, 0⟩⟩) hA hB hC rfl rfl (j_of hk hn ok0 (okc (by decide) hB) (ok2'.mono (by decide)) ok3') (sh10 A B C (kK K) (kK N)) hQ h9
        · refine bif_i (fun _ => ?_) (fun _ => ?_)
          · exact leaf_ok (x := ⟨2, kK K, ⟨0, 0⟩, ⟨-1, B⟩⟩) (y := ⟨2, kK N, ⟨3, 0⟩, ⟨3, 0⟩⟩) hA hB hC rfl rfl (j_of hk hn ok0 (okc (by decide) hB) ok3' ok3') (sh18 A B C (kK K) (kK N)) hQ h9
          · exact leaf_ok (x := ⟨2, kK K, ⟨0, 0⟩, ⟨-1, B⟩⟩) (y := ⟨2, kK N, ⟨3, 0⟩, ⟨2, 0⟩⟩) hA hB hC rfl rfl (j_of hk hn ok0 (okc (by decide) hB) ok3' (ok2'.mono (by decide))) (sh2 A B C (kK K) (kK N)) hQ h9
    · refine bif_i (fun _ => ?_) (fun _ => ?_)
      · refine bif_i (fun _ => ?_) (fun _ => ?_)
        · refine bif_i (fun _ => ?_) (fun _ => ?_)
          · exact leaf_ok (x := ⟨2, kK K, ⟨0, 0⟩, ⟨1, 0⟩⟩) (y := ⟨2, kK N, ⟨-1, C⟩, ⟨-1, C⟩⟩) hA hB hC rfl rfl (j_of hk hn ok0 ok1' (okc (by decide) hC) (okc (by decide) hC)) (sh24 A B C (kK K) (kK N)) hQ h9
          · exact leaf_ok (x := ⟨2, kK K, ⟨0, 0⟩, ⟨1, 0⟩⟩) (y := ⟨2, kK N, ⟨-1, C⟩, ⟨3, 0⟩⟩) hA hB hC rfl rfl (j_of hk hn ok0 ok1' (okc (by decide) hC) ok3') (sh12 A B C (kK K) (kK N)) hQ h9
        · refine bif_i (fun _ => ?_) (fun _ => ?_)
          · exact leaf_ok (x := ⟨2, kK K, ⟨0, 0⟩, ⟨1, 0⟩⟩) (y := ⟨2, kK N, ⟨3, 0⟩, ⟨3, 0⟩⟩) hA hB hC rfl rfl (j_of hk hn ok0 ok1' ok3' ok3') (sh16 A B C (kK K) (kK N)) hQ h9
          · exact leaf_ok (x := ⟨2, kK K, ⟨0, 0⟩, ⟨1, 0⟩⟩) (y := ⟨2, kK N, ⟨3, 0⟩, ⟨-1, C⟩⟩) hA hB hC rfl rfl (j_of hk hn ok0 ok1' ok3' (okc (by decide) hC)) (sh4 A B C (kK K) (kK N)) hQ h9
      · refine bif_i (fun _ => ?_) (fun _ => ?_)
        · refine bif_i (fun _ => ?_) (fun _ => ?_)
          · exact leaf_ok (x := ⟨2, kK K, ⟨0, 0⟩, ⟨1, 0⟩⟩) (y := ⟨2, kK N, ⟨2, 0⟩, ⟨2, 0⟩⟩) hA hB hC rfl rfl (j_of hk hn ok0 ok1' (ok2'.mono (by decide)) (ok2'.mono (by decide))) (sh20 A B C (kK K) (kK N)) hQ h9
          · exact leaf_ok (x := ⟨2, kK K, ⟨0, 0⟩, ⟨1, 0⟩⟩) (y := ⟨2, kK N, ⟨2, 0⟩, ⟨3, 0⟩⟩) hA hB hC rfl rfl (j_of hk hn ok0 ok1' (ok2'.mono (by decide)) ok3') (sh8 A B C (kK K) (kK N)) hQ h9
        · refine bif_i (fun _ => ?_) (fun _ => ?_)
          · exact leaf_ok (x := ⟨2, kK K, ⟨0, 0⟩, ⟨1, 0⟩⟩) (y := ⟨2, kK N, ⟨3, 0⟩, ⟨3, 0⟩⟩) hA hB hC rfl rfl (j_of hk hn ok0 ok1' ok3' ok3') (sh16 A B C (kK K) (kK N)) hQ h9
          · exact leaf_ok (x := ⟨2, kK K, ⟨0, 0⟩, ⟨1, 0⟩⟩) (y := ⟨2, kK N, ⟨3, 0⟩, ⟨2, 0⟩⟩) hA hB hC rfl rfl (j_of hk hn ok0 ok1' ok3' (ok2'.mono (by decide))) (sh0 A B C (kK K) (kK N)) hQ h9
/-- The law, awake given. -/
theorem law3 (h9 : grdA Tryz.prog W0 9 [] (.bool true) = true) {K N : Int} (hK : 0 ≤ K ∧ K ≤ 255) (hN : 0 ≤ N ∧ N ≤ 255) (hA : Pn.R A) (hB : Pn.R B) (hC : Pn.R C) (kn : Int) : ∃ h', Goes ⟨.e, 0, 0, 0⟩ h' ∧ CallOk Tryz.prog W0 3 [.agg [.int .u8 K, .int .u8 N, I A, I B, I C], .int .u8 kn] ⟨.e, 0, 0, 0⟩ h' (.bool true) := by
  classical
  obtain ⟨sv, h', k1, g, c⟩ := fnRunJ_ok (W0 := W0) (cF_ok (W0 := W0)) mixed (by kernel_rfl) ((run3 K N A B C kn fun s => decide (s = .bool true)).trans (tree3_ok h9 (kK_1 hK) (kK_1 hN) hA hB hC kn (decide_eq_true rfl)))
  have e := of_decide_eq_true k1
  rw [e] at c
  exact ⟨h', g, c⟩
end Go.Proofs.YtgoccionghehoaaGreatDoor.Ev
