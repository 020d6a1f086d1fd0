/-
  JournalsReplay: texts of the proof, part 19.
-/
import Derived.Test.YtgjlofpfbhioaaaGreatDoorMX17
namespace Go.Proofs.YtgjlofpfbhioaaaGreatDoor
namespace Mini
open Go
variable {m : Int} {X : Ctx}
theorem eC_split (p q : List En) (e : En) : eC (p ++ e :: q) = eC p ++ (e.ds.map .d ++ eC q) := by simp [eC]
theorem ds_len (e : En) : (e.ds.map C.d).length = 5 := rfl
theorem eC_at (p q : List En) (e : En) {k : Nat} (hk : p.length = k) : ((eC (p ++ e :: q)).drop (k * 5)).take 5 = e.ds.map .d := by
  subst hk
  rw [eC_split, ← eC_len, List.drop_left, List.take_append_of_le_length (Nat.le_of_eq (ds_len e).symm), List.take_of_length_le (Nat.le_of_eq (ds_len e))]
theorem eC_set (p q : List En) (e e' : En) {k : Nat} (hk : p.length = k) : splice (eC (p ++ e :: q)) (k * 5) (e'.ds.map .d) = eC (p ++ e' :: q) := by
  subst hk
  unfold splice
  rw [eC_split, eC_split, ← eC_len, List.take_left, ← List.drop_drop, List.drop_left, ds_len, ← ds_len e, List.drop_left, List.append_assoc]
abbrev cmpV : V := .c (.d (.fn 81 [] []))
theorem r125 (hX : XOr m X) {N : Nat} (hN : 20 ≤ N) {G : Heap} {id n i : Nat} {cap : Option Nat} {a q : List En} {x y : En} (hG : G[id]? = some (.cells (eC (a ++ [y] ++ x :: q)) 0 false)) (hn : (a ++ [y] ++ x :: q).length = n) (hn2 : n < 1000000) (hs : strLess x.s y.s = true) :
    exec (zenv X N) N false fn125L0 ⟨[.c (.os id 0 0 n 5 cap), i64 0, i64 (n : Int), cmpV, i64 (i : Int), i64 ((a.length + 1 : Nat) : Int), .any, .any], G⟩ =
      some (.nrm, ⟨[.c (.os id 0 0 n 5 cap), i64 0, i64 (n : Int), cmpV, i64 (i : Int), i64 (a.length : Int), .any, bl true], G.set id (.cells (eC (a ++ x :: y :: q)) 0 false) ++ [.cells (x.ds.map .d) 0 false, .cells (y.ds.map .d) 0 false]⟩) := by
  have hid : id < G.length := by
    rcases Nat.lt_or_ge id G.length with h | h
    · exact h
    · rw [List.getElem?_eq_none h] at hG; cases hG
  have hc := c81 hX hN x y G
  have hneg := cmpS_neg x.s y.s
  rw [hs] at hneg
  generalize hu : Ob.cells (x.ds.map .d) 0 false = u at hc ⊢
  generalize hv : Ob.cells (y.ds.map .d) 0 false = v at hc ⊢
  have hG1 : (G ++ [u, v])[id]? = some (.cells (eC (a ++ [y] ++ x :: q)) 0 false) := by rw [List.getElem?_append_left hid]; exact hG
  have hset : ∀ o, (G ++ [u, v]).set id o = G.set id o ++ [u, v] := fun o => by rw [List.set_append_left _ _ hid]
  have hget : ∀ o, (G.set id o ++ [u, v])[id]? = some o := fun o => by rw [List.getElem?_append_left (by rw [List.length_set]; exact hid), List.getElem?_set_self hid]
  have hss : ∀ o o', (G.set id o ++ [u, v]).set id o' = G.set id o' ++ [u, v] := fun o o' => by rw [List.set_append_left _ _ (by rw [List.length_set]; exact hid), List.set_set]
  have e1 : a ++ [y] ++ x :: q = a ++ y :: (x :: q) := by simp
  have hlen : (a ++ [y]).length = a.length + 1 := by simp
  have a1 := eC_at (a ++ [y]) q x hlen
  have a2 := eC_at a (x :: q) y rfl
  rw [← e1] at a2
  have s1 := eC_set (a ++ [y]) q x y hlen
  have s2 := eC_set a (y :: q) y x rfl
  have e2 : a ++ y :: (y :: q) = a ++ [y] ++ y :: q := by simp
  rw [e2] at s2
  have l1 : (eC (a ++ [y] ++ x :: q)).length = n * 5 := by rw [eC_len, hn]
  have l2 : (eC (a ++ [y] ++ y :: q)).length = n * 5 := by rw [eC_len, ← hn]; simp
  have hnn : a.length + 1 < n := by rw [← hn]; simp
  have k1 : (a.length + 1) * 5 + 5 ≤ n * 5 := by omega
  have k2 : a.length * 5 + 5 ≤ n * 5 := by omega
  have k3 : a.length < n := by omega
  have w1 : IntKind.i64.wrap (((a.length + 1 : Nat) : Int) - 1) = (a.length : Int) := by rw [show ((a.length + 1 : Nat) : Int) - 1 = ((a.length : Nat) : Int) by omega]; exact wrap_nat (by omega)
  have g0 : ((a.length + 1 : Nat) : Int) > 0 := by omega
  generalize a.length = k at *
  generalize eC (a ++ [y] ++ x :: q) = c0 at *
  generalize eC (a ++ [y] ++ y :: q) = c1 at *
  generalize eC (a ++ x :: y :: q) = c2 at *
  obtain ⟨xs, xa, xr, xt, xw, xl⟩ := x
  obtain ⟨ys, ya, yr, yt, yw, yl⟩ := y
  simp only [En.ds, List.map_cons, List.map_nil, i64] at *
  simp only [fn125L0, hG, hG1, hc, hset, hget, hss, a1, a2, s1, s2, l1, l2, hnn, k1, k2, k3, w1, g0, hneg, List.map_cons, List.map_nil, ↓sp_ixa, evs, Nat.reduceAdd]
end Mini
end Go.Proofs.YtgjlofpfbhioaaaGreatDoor
namespace Go.Proofs.YtgjlofpfbhioaaaGreatDoor
namespace Mini
open Go
variable {m : Int} {X : Ctx}
theorem r125x (hX : XOr m X) {N : Nat} (hN : 20 ≤ N) {G : Heap} {id n i : Nat} {cap : Option Nat} {a q : List En} {x y : En} (hG : G[id]? = some (.cells (eC (a ++ [y] ++ x :: q)) 0 false)) (hn : (a ++ [y] ++ x :: q).length = n) (hn2 : n < 1000000) (hs : strLess x.s y.s = false) :
    exec (zenv X N) N false fn125L0 ⟨[.c (.os id 0 0 n 5 cap), i64 0, i64 (n : Int), cmpV, i64 (i : Int), i64 ((a.length + 1 : Nat) : Int), .any, .any], G⟩ =
      some (.exit 2, ⟨[.c (.os id 0 0 n 5 cap), i64 0, i64 (n : Int), cmpV, i64 (i : Int), i64 ((a.length + 1 : Nat) : Int), .any, bl false], G ++ [.cells (x.ds.map .d) 0 false, .cells (y.ds.map .d) 0 false]⟩) := by
  have hc := c81 hX hN x y G
  have hneg := cmpS_neg x.s y.s
  rw [hs] at hneg
  generalize hu : Ob.cells (x.ds.map .d) 0 false = u at hc ⊢
  generalize hv : Ob.cells (y.ds.map .d) 0 false = v at hc ⊢
  have e1 : a ++ [y] ++ x :: q = a ++ y :: (x :: q) := by simp
  have hlen : (a ++ [y]).length = a.length + 1 := by simp
  have a1 := eC_at (a ++ [y]) q x hlen
  have a2 := eC_at a (x :: q) y rfl
  rw [← e1] at a2
  have l1 : (eC (a ++ [y] ++ x :: q)).length = n * 5 := by rw [eC_len, hn]
  have hnn : a.length + 1 < n := by rw [← hn]; simp
  have k1 : (a.length + 1) * 5 + 5 ≤ n * 5 := by omega
  have k2 : a.length * 5 + 5 ≤ n * 5 := by omega
  have k3 : a.length < n := by omega
  have w1 : IntKind.i64.wrap (((a.length + 1 : Nat) : Int) - 1) = (a.length : Int) := by rw [show ((a.length + 1 : Nat) : Int) - 1 = ((a.length : Nat) : Int) by omega]; exact wrap_nat (by omega)
  have g0 : ((a.length + 1 : Nat) : Int) > 0 := by omega
  generalize a.length = k at *
  generalize eC (a ++ [y] ++ x :: q) = c0 at *
  obtain ⟨xs, xa, xr, xt, xw, xl⟩ := x
  obtain ⟨ys, ya, yr, yt, yw, yl⟩ := y
  simp only [En.ds, List.map_cons, List.map_nil, i64] at *
  simp only [fn125L0, hG, hc, a1, a2, hnn, k3, w1, g0, hneg, List.map_cons, List.map_nil, ↓sp_ixa, evs, Nat.reduceAdd]
theorem r125z {N : Nat} {G : Heap} {id n i : Nat} {cap : Option Nat} :
    exec (zenv X N) N false fn125L0 ⟨[.c (.os id 0 0 n 5 cap), i64 0, i64 (n : Int), cmpV, i64 (i : Int), i64 0, .any, .any], G⟩ =
      some (.exit 2, ⟨[.c (.os id 0 0 n 5 cap), i64 0, i64 (n : Int), cmpV, i64 (i : Int), i64 0, .any, bl false], G⟩) := by
  simp only [fn125L0, evs]
theorem set_get {H : Heap} {id : Nat} (h : id < H.length) (o : Ob) : (H.set id o)[id]? = some o := List.getElem?_set_self h
theorem Hp.eset {n id : Nat} {H : Heap} (h : Hp n H) (l : List En) {g : Nat} {f : Bool} : Hp n (H.set id (.cells (eC l) g f)) := h.set (eC_u n l)
theorem it125 (hX : XOr m X) {N : Nat} (hN : 20 ≤ N) {H : Heap} {id n i : Nat} {cap : Option Nat} (hid : id < H.length) (hH : Hp H.length H) {x : En} {rest : List En} (hn2 : n < 1000000) : ∀ (k : Nat) (a c : List En) (fuel : Nat), a.length = k → (a ++ x :: (c ++ rest)).length = n → k < fuel →
    ∃ a1 d v t, a = a1 ++ d ∧ (∀ y ∈ d, strLess x.s y.s = true) ∧ (a1 = [] ∨ ∃ a2 y, a1 = a2 ++ [y] ∧ strLess x.s y.s = false) ∧
      iter (some [0, 1, 2, 3, 4, 5]) H.length (exec (zenv X N) N false fn125L0) fuel ⟨[.c (.os id 0 0 n 5 cap), i64 0, i64 (n : Int), cmpV, i64 (i : Int), i64 (k : Int), .any, .any], H.set id (.cells (eC (a ++ x :: (c ++ rest))) 0 false)⟩ =
        some (.exit 2, ⟨[.c (.os id 0 0 n 5 cap), i64 0, i64 (n : Int), cmpV, i64 (i : Int), v, .any, bl false], H.set id (.cells (eC (a1 ++ x :: (d ++ (c ++ rest)))) 0 false) ++ t⟩)
  | 0, a, c, fuel + 1, hk, hn, _ => by
    have ha : a = [] := List.length_eq_zero_iff.1 hk
    subst ha
    refine ⟨[], [], i64 0, [], rfl, fun y hy => (by cases hy), .inl rfl, ?_⟩
    rw [List.append_nil]
    exact iter_stop r125z
  | k + 1, a, c, fuel + 1, hk, hn, hf => by
    rcases List.eq_nil_or_concat a with rfl | ⟨a', y, rfl⟩
    · cases hk
    · rw [List.concat_eq_append] at *
      have hk' : a'.length = k := by simpa using hk
      have e1 : (a' ++ [y] ++ x :: (c ++ rest)) = a' ++ y :: x :: (c ++ rest) := by simp
      cases hs : strLess x.s y.s with
      | true =>
        have hr := r125 hX hN (G := H.set id (.cells (eC (a' ++ [y] ++ x :: (c ++ rest))) 0 false)) (i := i) (cap := cap) (set_get hid _) hn hn2 hs
        rw [hk', List.set_set] at hr
        rw [iter_step hr]
        have htd : tidy H.length (some [0, 1, 2, 3, 4, 5]) ⟨[.c (.os id 0 0 n 5 cap), i64 0, i64 (n : Int), cmpV, i64 (i : Int), i64 (k : Int), .any, bl true], H.set id (.cells (eC (a' ++ x :: y :: (c ++ rest))) 0 false) ++ [.cells (x.ds.map .d) 0 false, .cells (y.ds.map .d) 0 false]⟩ = ⟨[.c (.os id 0 0 n 5 cap), i64 0, i64 (n : Int), cmpV, i64 (i : Int), i64 (k : Int), .any, .any], H.set id (.cells (eC (a' ++ x :: y :: (c ++ rest))) 0 false)⟩ := by
          refine gc_back _ (by rw [List.length_set]) ?_ (by rw [List.length_set]; exact hH.eset _)
          have : decide (id < (H.set id (.cells (eC (a' ++ x :: y :: (c ++ rest))) 0 false)).length) = true := decide_eq_true (by rw [List.length_set]; exact hid)
          simp only [keepOnly, List.all_cons, List.all_nil, V.under, C.under, this, Bool.and_self, List.contains_cons, List.contains_nil, Nat.reduceBEq, Nat.reduceAdd, Bool.or_false, Bool.or_true, i64, if_true, Bool.false_eq_true, if_false, beq_self_eq_true]
        rw [htd]
        obtain ⟨a1, d, v, t, h1, h2, h3, h4⟩ := it125 hX hN hid hH hn2 (x := x) (rest := rest) (i := i) (cap := cap) k a' (y :: c) fuel hk' (by rw [← hn, e1]; simp) (by omega)
        refine ⟨a1, d ++ [y], v, t, by rw [h1, List.append_assoc], ?_, h3, ?_⟩
        · intro z hz
          rcases List.mem_append.1 hz with h | h
          · exact h2 z h
          · rw [List.mem_singleton.1 h]; exact hs
        · rw [List.append_assoc]
          exact h4
      | false =>
        have hr := r125x hX hN (G := H.set id (.cells (eC (a' ++ [y] ++ x :: (c ++ rest))) 0 false)) (i := i) (cap := cap) (set_get hid _) hn hn2 hs
        rw [hk'] at hr
        exact ⟨a' ++ [y], [], _, _, (List.append_nil _).symm, fun z hz => (by cases hz), .inr ⟨a', y, rfl, hs⟩, iter_stop hr⟩
end Mini
end Go.Proofs.YtgjlofpfbhioaaaGreatDoor
namespace Go.Proofs.YtgjlofpfbhioaaaGreatDoor
namespace Mini
open Go
variable {m : Int} {X : Ctx}
theorem ro125 (hX : XOr m X) {N : Nat} (hN : 20 ≤ N) {H : Heap} {id n i : Nat} {cap : Option Nat} (hid : id < H.length) (hH : Hp H.length H) {a rest : List En} {x : En} (hn2 : n < 1000000) (hnN : n < N) (ha : a.length = i) (hn : (a ++ x :: rest).length = n) :
    ∃ a1 d v t, a = a1 ++ d ∧ (∀ y ∈ d, strLess x.s y.s = true) ∧ (a1 = [] ∨ ∃ a2 y, a1 = a2 ++ [y] ∧ strLess x.s y.s = false) ∧
      exec (zenv X N) N false fn125L1 ⟨[.c (.os id 0 0 n 5 cap), i64 0, i64 (n : Int), cmpV, i64 (i : Int), .any, .any, .any], H.set id (.cells (eC (a ++ x :: rest)) 0 false)⟩ =
        some (.nrm, ⟨[.c (.os id 0 0 n 5 cap), i64 0, i64 (n : Int), cmpV, i64 ((i + 1 : Nat) : Int), v, .any, bl false], H.set id (.cells (eC (a1 ++ x :: (d ++ rest))) 0 false) ++ t⟩) := by
  have hi : i < n := by rw [← hn, ← ha]; simp
  obtain ⟨a1, d, v, t, h1, h2, h3, h4⟩ := it125 hX hN hid hH hn2 (i := i) (cap := cap) (x := x) (rest := rest) i a [] N ha hn (by omega)
  rw [List.nil_append] at h4
  refine ⟨a1, d, v, t, h1, h2, h3, ?_⟩
  have hlt : (i : Int) < (n : Int) := by omega
  have hw := wrap_succ (k := i) (by omega)
  generalize eC (a ++ x :: rest) = c0 at *
  generalize eC (a1 ++ x :: (d ++ rest)) = c1 at *
  simp only [i64, bl, cmpV] at h4 ⊢
  simp only [fn125L1, hlt, hw, h4, List.length_set, evs, Nat.reduceAdd, Nat.reduceBEq]
abbrev Asc3 (l : List En) : Prop := l.Pairwise fun a b => strLess a.s b.s = true
theorem asc_ins {a1 d : List En} {x : En} (h : Asc3 (a1 ++ d)) (h2 : ∀ y ∈ d, strLess x.s y.s = true) (h3 : a1 = [] ∨ ∃ a2 y, a1 = a2 ++ [y] ∧ strLess x.s y.s = false) (hne : ∀ y ∈ a1, y.s ≠ x.s) : Asc3 (a1 ++ x :: d) := by
  obtain ⟨p1, p2, p3⟩ := List.pairwise_append.1 h
  refine List.pairwise_append.2 ⟨p1, List.pairwise_cons.2 ⟨h2, p2⟩, ?_⟩
  intro y hy z hz
  rcases List.mem_cons.1 hz with rfl | hz
  · rcases h3 with rfl | ⟨a2, q, rfl, hq⟩
    · cases hy
    · have hqz : strLess q.s z.s = true := by
        cases hc : strLess q.s z.s with
        | true => rfl
        | false => exact absurd (strLess_tri hc hq) (hne q (by simp))
      rcases List.mem_append.1 hy with h | h
      · exact strLess_trans ((List.pairwise_append.1 p1).2.2 y h q (by simp)) hqz
      · rw [List.mem_singleton.1 h]; exact hqz
  · exact p3 y hy z hz
theorem c125 (hX : XOr m X) {N : Nat} (hN : 2000 ≤ N) {H : Heap} {id n : Nat} {cap : Option Nat} (hH : Hp H.length H) {g0 : List En} (h0 : H[id]? = some (.cells (eC g0) 0 false)) (hlen : g0.length = n) (hn2 : n < 1000) (hnd : (g0.map En.s).Nodup) :
    ∃ g1, g1.Perm g0 ∧ Asc3 g1 ∧ callN X N (.d (.fn 125 [] [])) [.c (.os id 0 0 n 5 cap), i64 0, i64 (n : Int), cmpV] H = some (.tup [], H.set id (.cells (eC g1) 0 false)) := by
  obtain ⟨N, rfl⟩ : ∃ M, N = M + 1 := ⟨N - 1, by omega⟩
  have hid : id < H.length := by
    rcases Nat.lt_or_ge id H.length with h | h
    · exact h
    · rw [List.getElem?_eq_none h] at h0; cases h0
  have hset : H.set id (.cells (eC g0) 0 false) = H := by
    apply List.ext_getElem?
    intro j
    by_cases hj : id = j
    · subst hj; rw [List.getElem?_set_self hid, h0]
    · rw [List.getElem?_set_ne hj]
  let P : Nat → St → Prop := fun i s => ∃ g, s = ⟨[.c (.os id 0 0 n 5 cap), i64 0, i64 (n : Int), cmpV, i64 (i : Int), .any, .any, .any], H.set id (.cells (eC g) 0 false)⟩ ∧ g.Perm g0 ∧ Asc3 (g.take i)
  have hit := iter_inv (js := some [0, 1, 2, 3, 4]) (hl := H.length) (body := exec (zenv X N) N false fn125L1) P (e := .exit 0) (by simp) (fun s' => ∃ g, s' = ⟨[.c (.os id 0 0 n 5 cap), i64 0, i64 (n : Int), cmpV, i64 ((1 + (n - 1) : Nat) : Int), .any, bl false, .any], H.set id (.cells (eC g) 0 false)⟩ ∧ g.Perm g0 ∧ Asc3 g) (n - 1) 1 N ⟨[.c (.os id 0 0 n 5 cap), i64 0, i64 (n : Int), cmpV, i64 ((1 : Nat) : Int), .any, .any, .any], H.set id (.cells (eC g0) 0 false)⟩
    ⟨g0, rfl, List.Perm.refl _, by
      cases g0 with
      | nil => exact List.Pairwise.nil
      | cons e l => rw [List.take_succ_cons, List.take_zero]; exact List.pairwise_singleton _ _⟩
    (by
      rintro i hi1 hi2 _ ⟨g, rfl, hp, hs⟩
      have hgl : g.length = n := by rw [hp.length_eq, hlen]
      have hig : i < g.length := by omega
      obtain ⟨a, x, rest, rfl, hal⟩ : ∃ a x rest, g = a ++ x :: rest ∧ a.length = i := ⟨g.take i, g[i], g.drop (i + 1), by rw [← List.drop_eq_getElem_cons hig, List.take_append_drop], by rw [List.length_take]; omega⟩
      rw [← hal, List.take_left] at hs
      obtain ⟨a1, d, v, t, h1, h2, h3, h4⟩ := ro125 hX (N := N) (by omega) hid hH (n := n) (i := i) (cap := cap) (a := a) (x := x) (rest := rest) (by omega) (by omega) hal hgl
      refine ⟨_, h4, a1 ++ x :: (d ++ rest), ?_, ?_, ?_⟩
      · refine gc_back _ (by rw [List.length_set]) ?_ (by rw [List.length_set]; exact hH.eset _)
        have : decide (id < (H.set id (.cells (eC (a1 ++ x :: (d ++ rest))) 0 false)).length) = true := decide_eq_true (by rw [List.length_set]; exact hid)
        simp only [keepOnly, List.all_cons, List.all_nil, V.under, C.under, this, Bool.and_self, List.contains_cons, List.contains_nil, Nat.reduceBEq, Nat.reduceAdd, Bool.or_false, Bool.or_true, i64, bl, if_true, Bool.false_eq_true, if_false, beq_self_eq_true]
      · refine List.Perm.trans ?_ hp
        rw [h1, List.append_assoc]
        exact List.Perm.append_left a1 List.perm_middle.symm
      · have htk : (a1 ++ x :: (d ++ rest)).take (i + 1) = a1 ++ x :: d := by
          have hl : (a1 ++ x :: d).length = i + 1 := by
            have : (a1 ++ d).length = i := by rw [← h1, hal]
            simp only [List.length_append, List.length_cons] at this ⊢
            omega
          rw [show a1 ++ x :: (d ++ rest) = (a1 ++ x :: d) ++ rest by simp, List.take_append_of_le_length (by omega), List.take_of_length_le (by omega)]
        rw [htk]
        refine asc_ins (by rw [← h1]; exact hs) h2 h3 ?_
        intro y hy hyx
        have hnd' : ((a ++ x :: rest).map En.s).Nodup := (hp.map En.s).nodup_iff.2 hnd
        rw [h1, List.append_assoc, List.map_append, List.nodup_append] at hnd'
        exact hnd'.2.2 y.s (List.mem_map_of_mem hy) x.s (List.mem_map_of_mem (List.mem_append_right _ List.mem_cons_self)) hyx)
    (by
      rintro _ ⟨g, rfl, hp, hs⟩
      have hgl : g.length = n := by rw [hp.length_eq, hlen]
      refine ⟨_, ?_, g, rfl, hp, by rw [List.take_of_length_le (by omega)] at hs; exact hs⟩
      have hge : ¬ (((1 + (n - 1) : Nat) : Int) < (n : Int)) := by omega
      generalize 1 + (n - 1) = k at *
      simp only [fn125L1, hge, evs])
    (by omega)
  obtain ⟨_, hit, g, rfl, hp, hs⟩ := hit
  refine ⟨g, hp, hs, ?_⟩
  rw [hX.fn (F := fn125') rfl]
  refine (rf_fin _ _ _ _ _ _ _ _ _ (by rfl)).trans ?_
  rw [hset] at hit
  have hw : IntKind.i64.wrap 1 = 1 := by decide
  generalize 1 + (n - 1) = k at *
  simp only [i64, bl, cmpV, Int.natCast_one] at hit ⊢
  simp only [hit, Int.reduceAdd, hw, evs, Nat.reduceAdd, Nat.reduceSub, Nat.reduceBEq]
end Mini
end Go.Proofs.YtgjlofpfbhioaaaGreatDoor
namespace Go.Proofs.YtgjlofpfbhioaaaGreatDoor
namespace Mini
open Go
variable {m : Int} {X : Ctx}
theorem run105 (m : Int) : vcallF (XR m) 100 105 [.c (.d (.int .u64 0))] = some (i64 0) ∧ vcallF (XR m) 100 105 [.c (.d (.int .u64 1))] = some (i64 1) ∧ vcallF (XR m) 100 105 [.c (.d (.int .u64 2))] = some (i64 2) ∧ vcallF (XR m) 100 105 [.c (.d (.int .u64 3))] = some (i64 2) ∧ vcallF (XR m) 100 105 [.c (.d (.int .u64 4))] = some (i64 3) ∧ vcallF (XR m) 100 105 [.c (.d (.int .u64 5))] = some (i64 3) ∧ vcallF (XR m) 100 105 [.c (.d (.int .u64 6))] = some (i64 3) ∧ vcallF (XR m) 100 105 [.c (.d (.int .u64 7))] = some (i64 3) ∧ vcallF (XR m) 100 105 [.c (.d (.int .u64 8))] = some (i64 4) ∧ vcallF (XR m) 100 105 [.c (.d (.int .u64 9))] = some (i64 4) ∧ vcallF (XR m) 100 105 [.c (.d (.int .u64 10))] = some (i64 4) ∧ vcallF (XR m) 100 105 [.c (.d (.int .u64 11))] = some (i64 4) ∧ vcallF (XR m) 100 105 [.c (.d (.int .u64 12))] = some (i64 4) := by
  refine ⟨?_, ?_, ?_, ?_, ?_, ?_, ?_, ?_, ?_, ?_, ?_, ?_, ?_⟩ <;> kernel_rfl
theorem f105 (hX : XOr m X) {N : Nat} (hN : 100 ≤ N) {n : Nat} (hn : n ≤ 12) : ∃ r : Int, vcallN X N 105 [.c (.d (.int .u64 (n : Int)))] = some (i64 r) := by
  have h := run105 m
  simp only [vcallF_eq] at h
  obtain ⟨h0, h1, h2, h3, h4, h5, h6, h7, h8, h9, h10, h11, h12⟩ := h
  have hc : n = 0 ∨ n = 1 ∨ n = 2 ∨ n = 3 ∨ n = 4 ∨ n = 5 ∨ n = 6 ∨ n = 7 ∨ n = 8 ∨ n = 9 ∨ n = 10 ∨ n = 11 ∨ n = 12 := by omega
  rcases hc with rfl | rfl | rfl | rfl | rfl | rfl | rfl | rfl | rfl | rfl | rfl | rfl | rfl
  · exact ⟨_, hX.run h0 hN⟩
  · exact ⟨_, hX.run h1 hN⟩
  · exact ⟨_, hX.run h2 hN⟩
  · exact ⟨_, hX.run h3 hN⟩
  · exact ⟨_, hX.run h4 hN⟩
  · exact ⟨_, hX.run h5 hN⟩
  · exact ⟨_, hX.run h6 hN⟩
  · exact ⟨_, hX.run h7 hN⟩
  · exact ⟨_, hX.run h8 hN⟩
  · exact ⟨_, hX.run h9 hN⟩
  · exact ⟨_, hX.run h10 hN⟩
  · exact ⟨_, hX.run h11 hN⟩
  · exact ⟨_, hX.run h12 hN⟩
theorem c104 (hX : XOr m X) {N : Nat} (hN : 3000 ≤ N) {H : Heap} {id n : Nat} {cap : Option Nat} (hH : Hp H.length H) {g0 : List En} (h0 : H[id]? = some (.cells (eC g0) 0 false)) (hlen : g0.length = n) (hn : n ≤ 12) (hnd : (g0.map En.s).Nodup) (lim : Int) :
    ∃ g1, g1.Perm g0 ∧ Asc3 g1 ∧ callN X N (.d (.fn 104 [] [])) [.c (.os id 0 0 n 5 cap), i64 0, i64 (n : Int), i64 lim, cmpV] H = some (.tup [], H.set id (.cells (eC g1) 0 false)) := by
  obtain ⟨N, rfl⟩ : ∃ M, N = M + 1 := ⟨N - 1, by omega⟩
  obtain ⟨g1, h1, h2, h3⟩ := c125 hX (N := N) (by omega) (cap := cap) hH h0 hlen (by omega) hnd
  refine ⟨g1, h1, h2, ?_⟩
  have w1 : IntKind.i64.wrap ((n : Int) - 0) = (n : Int) := by rw [Int.sub_zero]; exact wrap_nat (by omega)
  have c1 : (n : Int) ≤ 12 := by omega
  simp only [i64, cmpV] at h3
  have hit : ∀ (M : Nat) (q : Heap), iter (some [0, 1, 2, 3, 4, 5, 6]) q.length (exec (zenv X N) N false fn104L0) (M + 1) ⟨[.c (.os id 0 0 n 5 cap), i64 0, i64 (n : Int), i64 lim, cmpV, bl true, bl true, .any, .any, .any, .any, .any, .any, .any, .any, .any, .any, .any, .any, .any, .any, .any, .any, .any], H⟩ = some (.ret, ⟨[.c (.os id 0 0 n 5 cap), i64 0, i64 (n : Int), i64 lim, cmpV, bl true, bl true, i64 (n : Int), .any, .any, .any, .any, .any, .any, .any, .any, bl true, .any, .any, .any, .any, .any, .any, .any], H.set id (.cells (eC g1) 0 false)⟩) := by
    intro M q
    have : exec (zenv X N) N false fn104L0 ⟨[.c (.os id 0 0 n 5 cap), i64 0, i64 (n : Int), i64 lim, cmpV, bl true, bl true, .any, .any, .any, .any, .any, .any, .any, .any, .any, .any, .any, .any, .any, .any, .any, .any, .any], H⟩ = some (.ret, ⟨[.c (.os id 0 0 n 5 cap), i64 0, i64 (n : Int), i64 lim, cmpV, bl true, bl true, i64 (n : Int), .any, .any, .any, .any, .any, .any, .any, .any, bl true, .any, .any, .any, .any, .any, .any, .any], H.set id (.cells (eC g1) 0 false)⟩) := by
      simp only [fn104L0, h3, w1, c1, List.map_cons, List.map_nil, cmpV, evs]
    simp only [iter, this]
  rw [hX.fn (F := fn104') rfl]
  refine (rf_fin _ _ _ _ _ _ _ _ _ (by rfl)).trans ?_
  obtain ⟨M, rfl⟩ : ∃ M, N = M + 1 := ⟨N - 1, by omega⟩
  have hit := hit M H
  simp only [i64, bl, cmpV] at hit ⊢
  simp only [hit, evs, Nat.reduceAdd, Nat.reduceSub, Nat.reduceBEq]
theorem c80 (hX : XOr m X) {N : Nat} (hN : 4000 ≤ N) {H : Heap} {id n : Nat} {cap : Option Nat} (hH : Hp H.length H) {g0 : List En} (h0 : H[id]? = some (.cells (eC g0) 0 false)) (hlen : g0.length = n) (hn : n ≤ 12) (hnd : (g0.map En.s).Nodup) :
    ∃ g1, g1.Perm g0 ∧ Asc3 g1 ∧ callN X N (.d (.fn 80 [] [])) [.c (.os id 0 0 n 5 cap), cmpV] H = some (.tup [], H.set id (.cells (eC g1) 0 false)) := by
  obtain ⟨N, rfl⟩ : ∃ M, N = M + 1 := ⟨N - 1, by omega⟩
  obtain ⟨lim, hl⟩ := f105 hX (N := N) (by omega) hn
  have hl := hX.vc (k := 105) (F := fn105) rfl hl
  obtain ⟨g1, h1, h2, h3⟩ := c104 hX (N := N) (by omega) (cap := cap) hH h0 hlen hn hnd lim
  refine ⟨g1, h1, h2, ?_⟩
  have w1 : IntKind.u64.wrap (n : Int) = (n : Int) := by
    have : (n : Int) % 18446744073709551616 = n := Int.emod_eq_of_lt (by omega) (by omega)
    exact this
  simp only [i64, cmpV] at h3 hl ⊢
  rw [hX.fn (F := fn80') rfl]
  refine (rf_fin _ _ _ _ _ _ _ _ _ (by rfl)).trans ?_
  simp only [hl, h3, w1, List.map_cons, List.map_nil, ↓sp_len, evs, Nat.reduceAdd, Nat.reduceSub]
end Mini
end Go.Proofs.YtgjlofpfbhioaaaGreatDoor
namespace Go.Proofs.YtgjlofpfbhioaaaGreatDoor
namespace Mini
open Go
def setP (s : List Nat) (j : Nat) : List (List Nat × Nat) → List (List Nat × Nat)
  | [] => [(s, j)]
  | e :: es => if s = e.1 then (s, j) :: es else e :: setP s j es
def lookP (s : List Nat) : List (List Nat × Nat) → Option Nat
  | [] => none
  | e :: es => if s = e.1 then some e.2 else lookP s es
def esV (es : List (List Nat × Nat)) : List (V × V) := es.map fun e => (strV e.1, i64 (e.2 : Int))
theorem setM_P (s : List Nat) (j : Nat) : ∀ es, setM (strV s) (i64 (j : Int)) (esV es) = some (esV (setP s j es))
  | [] => rfl
  | e :: es => by
    have ih := setM_P s j es
    unfold esV at ih ⊢
    simp only [List.map_cons, setM, strV, eqKey, setP]
    by_cases h : s = e.1
    · simp only [h, beq_self_eq_true, if_true, List.map_cons]
    · have hb : (s == e.1) = false := by simpa using h
      simp only [strV] at ih
      simp only [hb, if_neg h, ih, Option.map_some, List.map_cons]
theorem lookM_P (s : List Nat) : ∀ es, lookM (strV s) (esV es) = some ((lookP s es).map fun (j : Nat) => i64 (j : Int))
  | [] => rfl
  | e :: es => by
    have ih := lookM_P s es
    unfold esV at ih ⊢
    simp only [List.map_cons, lookM, strV, eqKey, lookP]
    by_cases h : s = e.1
    · simp only [h, beq_self_eq_true, if_true, Option.map_some]
    · have hb : (s == e.1) = false := by simpa using h
      simp only [strV] at ih
      simp only [hb, if_neg h, ih]
theorem esV_len (es : List (List Nat × Nat)) : (esV es).length = es.length := by simp [esV]
theorem esV_d (es : List (List Nat × Nat)) : ((esV es).all fun e => vD e.1 && vD e.2) = true := by simp [esV, vD, strV, i64]
theorem lookP_set (s t : List Nat) (j : Nat) : ∀ es, lookP t (setP s j es) = if t = s then some j else lookP t es
  | [] => by simp [setP, lookP]
  | e :: es => by
    have ih := lookP_set s t j es
    unfold setP
    by_cases h : s = e.1
    · rw [if_pos h]
      unfold lookP
      by_cases h2 : t = s
      · simp [h2]
      · rw [if_neg h2, if_neg h2, if_neg (h ▸ h2)]
    · rw [if_neg h]
      unfold lookP
      by_cases h2 : t = e.1
      · have : t ≠ s := fun h3 => h (h3 ▸ h2)
        rw [if_pos h2, if_pos h2, if_neg this]
      · rw [if_neg h2, if_neg h2]; exact ih
theorem keys_set (s : List Nat) (j : Nat) : ∀ es : List (List Nat × Nat), (es.map Prod.fst).Nodup → ((setP s j es).map Prod.fst).Nodup ∧ ∀ t, t ∈ (setP s j es).map Prod.fst ↔ t = s ∨ t ∈ es.map Prod.fst
  | [], _ => by simp [setP]
  | e :: es, h => by
    rw [List.map_cons, List.nodup_cons] at h
    obtain ⟨i1, i2⟩ := keys_set s j es h.2
    unfold setP
    by_cases c : s = e.1
    · rw [if_pos c]
      refine ⟨?_, fun t => ?_⟩
      · rw [List.map_cons, List.nodup_cons]; exact ⟨by rw [c]; exact h.1, h.2⟩
      · simp only [List.map_cons, List.mem_cons, c]
        constructor
        · exact fun h => h.elim .inl (fun h => .inr (.inr h))
        · exact fun h => h.elim .inl id
    · rw [if_neg c]
      refine ⟨?_, fun t => ?_⟩
      · rw [List.map_cons, List.nodup_cons]
        exact ⟨fun h3 => ((i2 _).1 h3).elim (fun h4 => c h4.symm) h.1, i1⟩
      · simp only [List.map_cons, List.mem_cons, i2]
        constructor
        · rintro (h | h | h)
          · exact .inr (.inl h)
          · exact .inl h
          · exact .inr (.inr h)
        · rintro (h | h | h)
          · exact .inr (.inl h)
          · exact .inl h
          · exact .inr (.inr h)
def atP (l : List En) : Nat → List (List Nat × Nat)
  | 0 => []
  | i + 1 => setP (l.getD i e0).s i (atP l i)
theorem atP_keys (l : List En) : ∀ i, ((atP l i).map Prod.fst).Nodup ∧ ∀ t, t ∈ (atP l i).map Prod.fst ↔ ∃ j, j < i ∧ (l.getD j e0).s = t
  | 0 => ⟨List.nodup_nil, fun t => ⟨fun h => (by cases h), fun ⟨j, h, _⟩ => by omega⟩⟩
  | i + 1 => by
    obtain ⟨h1, h2⟩ := atP_keys l i
    obtain ⟨h3, h4⟩ := keys_set (l.getD i e0).s i _ h1
    refine ⟨h3, fun t => (h4 t).trans ?_⟩
    rw [h2]
    constructor
    · rintro (rfl | ⟨j, h5, h6⟩)
      · exact ⟨i, by omega, rfl⟩
      · exact ⟨j, by omega, h6⟩
    · rintro ⟨j, h5, h6⟩
      by_cases c : j = i
      · exact .inl (c ▸ h6.symm)
      · exact .inr ⟨j, by omega, h6⟩
def lastE (l : List En) (n j : Nat) : Prop := ∀ k, j < k → k < n → (l.getD k e0).s ≠ (l.getD j e0).s
theorem lookP_at (l : List En) : ∀ (n j : Nat), j < n → (lookP (l.getD j e0).s (atP l n) = some j ↔ lastE l n j)
  | n + 1, j, hj => by
    unfold atP
    rw [lookP_set]
    by_cases c : (l.getD j e0).s = (l.getD n e0).s
    · rw [if_pos c]
      constructor
      · intro h k h1 h2
        cases h
        omega
      · intro h
        by_cases c2 : j = n
        · rw [c2]
        · exact absurd c.symm (h n (by omega) (by omega))
    · rw [if_neg c]
      have hjn : j < n := by
        rcases Nat.lt_or_ge j n with h | h
        · exact h
        · exact absurd (by rw [show j = n by omega]) c
      rw [lookP_at l n j hjn]
      constructor
      · intro h k h1 h2
        by_cases c2 : k = n
        · rw [c2]; exact fun h3 => c h3.symm
        · exact h k h1 (by omega)
      · exact fun h k h1 h2 => h k h1 (by omega)
theorem lookP_some (l : List En) : ∀ (n j : Nat), j < n → ∃ k, lookP (l.getD j e0).s (atP l n) = some k
  | n + 1, j, hj => by
    unfold atP
    rw [lookP_set]
    by_cases c : (l.getD j e0).s = (l.getD n e0).s
    · exact ⟨n, if_pos c⟩
    · rw [if_neg c]
      have hjn : j < n := by
        rcases Nat.lt_or_ge j n with h | h
        · exact h
        · exact absurd (by rw [show j = n by omega]) c
      exact lookP_some l n j hjn
def keptJ (l : List En) (n : Nat) : Nat → List En
  | 0 => []
  | i + 1 => if lookP (l.getD i e0).s (atP l n) = some i then keptJ l n i ++ [newE (l.getD i e0)] else keptJ l n i
theorem kept_mem (l : List En) (n : Nat) : ∀ i {e : En}, e ∈ keptJ l n i ↔ ∃ j, j < i ∧ lookP (l.getD j e0).s (atP l n) = some j ∧ e = newE (l.getD j e0)
  | 0, e => ⟨fun h => (by cases h), fun ⟨j, h, _⟩ => by omega⟩
  | i + 1, e => by
    unfold keptJ
    have ih := kept_mem l n i (e := e)
    by_cases c : lookP (l.getD i e0).s (atP l n) = some i
    · rw [if_pos c, List.mem_append, ih, List.mem_singleton]
      constructor
      · rintro (⟨j, h1, h2, h3⟩ | h)
        · exact ⟨j, by omega, h2, h3⟩
        · exact ⟨i, by omega, c, h⟩
      · rintro ⟨j, h1, h2, h3⟩
        by_cases c2 : j = i
        · exact .inr (c2 ▸ h3)
        · exact .inl ⟨j, by omega, h2, h3⟩
    · rw [if_neg c, ih]
      constructor
      · rintro ⟨j, h1, h2, h3⟩
        exact ⟨j, by omega, h2, h3⟩
      · rintro ⟨j, h1, h2, h3⟩
        by_cases c2 : j = i
        · exact absurd (c2 ▸ h2) c
        · exact ⟨j, by omega, h2, h3⟩
theorem kept_nodup (l : List En) (n : Nat) : ∀ i, ((keptJ l n i).map En.s).Nodup
  | 0 => List.nodup_nil
  | i + 1 => by
    have ih := kept_nodup l n i
    unfold keptJ
    by_cases c : lookP (l.getD i e0).s (atP l n) = some i
    · rw [if_pos c, List.map_append, List.nodup_append]
      refine ⟨ih, by simp, ?_⟩
      intro s hs t ht hst
      obtain ⟨e, he, rfl⟩ := List.mem_map.1 hs
      obtain ⟨j, h1, h2, rfl⟩ := (kept_mem l n i).1 he
      have ht' : t = (l.getD i e0).s := List.mem_singleton.1 ht
      have h3 : (l.getD j e0).s = (l.getD i e0).s := hst.trans ht'
      rw [h3, c] at h2
      cases h2
      omega
    · rw [if_neg c]; exact ih
theorem kept_len (l : List En) (n : Nat) : (keptJ l n n).length = (atP l n).length := by
  have h1 := kept_nodup l n n
  obtain ⟨h2, h3⟩ := atP_keys l n
  have h4 : ((keptJ l n n).map En.s).Perm ((atP l n).map Prod.fst) := by
    refine (List.perm_ext_iff_of_nodup h1 h2).2 fun s => ?_
    rw [h3, List.mem_map]
    constructor
    · rintro ⟨e, he, rfl⟩
      obtain ⟨j, q1, q2, rfl⟩ := (kept_mem l n n).1 he
      exact ⟨j, q1, rfl⟩
    · rintro ⟨j, q1, rfl⟩
      obtain ⟨k, hk⟩ := lookP_some l n j q1
      have hk' : k < n ∧ (l.getD k e0).s = (l.getD j e0).s ∧ lookP (l.getD k e0).s (atP l n) = some k := by
        have : ∀ (n : Nat) (s : List Nat) (k : Nat), lookP s (atP l n) = some k → k < n ∧ (l.getD k e0).s = s := by
          intro n
          induction n with
          | zero => intro s k h; cases h
          | succ n ih =>
            intro s k h
            unfold atP at h
            rw [lookP_set] at h
            by_cases c : s = (l.getD n e0).s
            · rw [if_pos c] at h; cases h; exact ⟨by omega, c.symm⟩
            · rw [if_neg c] at h
              obtain ⟨a, b⟩ := ih s k h
              exact ⟨by omega, b⟩
        obtain ⟨a, b⟩ := this n _ _ hk
        exact ⟨a, b, by rw [b]; exact hk⟩
      exact ⟨newE (l.getD k e0), (kept_mem l n n).2 ⟨k, hk'.1, hk'.2.2, rfl⟩, hk'.2.1⟩
  have := h4.length_eq
  simpa using this
theorem kept_le (l : List En) (n : Nat) : ∀ (d i : Nat), i + d = n → (keptJ l n i).length ≤ (keptJ l n n).length
  | 0, i, h => by rw [show i = n by omega]; exact Nat.le_refl _
  | d + 1, i, h => by
    refine Nat.le_trans ?_ (kept_le l n d (i + 1) (by omega))
    rw [keptJ]
    split
    · simp
    · exact Nat.le_refl _
end Mini
end Go.Proofs.YtgjlofpfbhioaaaGreatDoor
namespace Go.Proofs.YtgjlofpfbhioaaaGreatDoor
namespace Mini
open Go
variable {m : Int} {X : Ctx}
def ldc (g : Bool) (n : Nat) (H : Heap) : V → Option (V × List Ob)
  | .c (.ptr id gen off) =>
    match ob? H id with
    | some (.cells cs g' _) => if g' = gen then (ofCells g n ((cs.drop off).take n)).map fun v => (v, []) else none
    | _ => none
  | .c (.d (.ip cs)) => (ofCells g n ((cs.take n).map .d)).map fun v => (v, [])
  | _ => none
theorem sp_ld (lk : A → V) (H : Heap) (g : Bool) (n : Nat) (a : A) : stepP lk H (.ld g n a) = ldc g n H (lk a) := rfl
theorem ldc_ptr {g : Bool} {n : Nat} {H : Heap} {id gen off : Nat} {cs : List C} {f : Bool} (h : H[id]? = some (.cells cs gen f)) : ldc g n H (.c (.ptr id gen off)) = (ofCells g n ((cs.drop off).take n)).map fun v => (v, []) := by
  simp only [ldc, ob_eq, h, if_true]
structure ArgE (H : Heap) (v : V) (l : List En) : Prop where
  len : lenc v = some (i64 (l.length : Int), [])
  at' : ∀ i, i < l.length → ∃ p, ixac 5 i v = some (p, []) ∧ ∀ t, ldc true 5 (H ++ t) p = some (.agg ((l.getD i e0).ds.map .d), [])
  und : ∀ k, H.length ≤ k → V.under k v = true
  hp : Hp H.length H
  wf : ∀ e ∈ l, wfE e
  sm : ∀ e ∈ l, e.s.length ≤ 1000 ∧ e.l.length ≤ 1000
theorem sx1 {α : Type} (H : List α) (a b c : α) : (H ++ [a, b]).set H.length c = H ++ [c, b] := by
  rw [List.set_append_right _ _ (Nat.le_refl _), Nat.sub_self]; rfl
theorem sx2 {α : Type} (H : List α) (a b c : α) : (H ++ [a, b]).set (H.length + 1) c = H ++ [a, c] := by
  rw [List.set_append_right _ _ (by omega), show H.length + 1 - H.length = 1 by omega]; rfl
abbrev R47 (v : V) (M n i : Nat) : List V := [v, .any, .any, .c (.mp M), .any, .any, .any, .any, .any, .any, .any, v, i64 (n : Int), i64 (i : Int), .any, .any, .any, .any, .any, .any, .any, .any]
theorem r47 (hX : XOr m X) {N : Nat} (hN : 3000 ≤ N) {H : Heap} {v : V} {l : List En} (hA : ArgE H v l) {es : List (List Nat × Nat)} {i : Nat} (hi : i < l.length) (hl : l.length < 1000000) :
    exec (zenv X N) N false fn47L1 ⟨R47 v H.length l.length i, H ++ [.map (esV es)]⟩ =
      if (l.getD i e0).chk = 0 then some (.nrm, ⟨[v, .any, .any, .c (.mp H.length), i64 (i : Int), .c (.ptr (H.length + 1) 0 0), i64 0, .any, .any, .any, .any, v, i64 (l.length : Int), i64 ((i + 1 : Nat) : Int), bl true, bl false, .any, .any, .any, .any, .any, .any], H ++ [.map (esV (setP (l.getD i e0).s i es)), .cells ((l.getD i e0).ds.map .d) 0 false]⟩)
      else some (.ret, ⟨[v, .c (.d .nils), i64 ((l.getD i e0).chk : Int), .c (.mp H.length), i64 (i : Int), .c (.ptr (H.length + 1) 0 0), i64 ((l.getD i e0).chk : Int), .any, .any, .any, .any, v, i64 (l.length : Int), i64 (i : Int), bl true, bl true, .any, .any, .any, .any, .any, .any], H ++ [.map (esV es), .cells ((l.getD i e0).ds.map .d) 0 false]⟩) := by
  have hm := getE_mem hi
  have hlt : (i : Int) < (l.length : Int) := by omega
  have hw := wrap_succ (k := i) (by omega)
  obtain ⟨p, h1, h2⟩ := hA.at' i hi
  obtain ⟨w1, w2⟩ := hA.wf _ hm
  obtain ⟨b1, b2⟩ := hA.sm _ hm
  have h48 : (zenv X N).vcall 48 [.agg ((l.getD i e0).ds.map .d)] = some (i64 ((l.getD i e0).chk : Int)) := hX.j.vc (k := 48) (F := fn48) rfl (f48 hX.j (by omega) (by omega) w1 w2 (by omega))
  have hm1 := setM_P (l.getD i e0).s i es
  generalize l.getD i e0 = e at *
  have n1 := nx1 H (.map (esV es)) (.cells (e.ds.map .d) 0 false)
  have n2 := nx2 H (.map (esV es)) (.cells (e.ds.map .d) 0 false)
  have d1 : ldc true 5 (H ++ [.map (esV es), .cells (e.ds.map .d) 0 false]) (.c (.ptr (H.length + 1) 0 0)) = some (.agg (e.ds.map .d), []) := by rw [ldc_ptr n2]; rfl
  have d2 : ldc false 1 (H ++ [.map (esV es), .cells (e.ds.map .d) 0 false]) (.c (.ptr (H.length + 1) 0 0)) = some (.c (.d (.str e.s)), []) := by rw [ldc_ptr n2]; rfl
  have h3 := h2 [.map (esV es)]
  have q1 := sx1 H (.map (esV es)) (.cells (e.ds.map .d) 0 false)
  generalize hch : e.chk = ch at *
  generalize esV (setP e.s i es) = es' at *
  generalize esV es = ev at *
  obtain ⟨s, acc, r, t, w, ol⟩ := e
  simp only [En.ds, List.map_cons, List.map_nil, i64, strV] at *
  by_cases c : ch = 0
  · rw [if_pos c]
    subst c
    have g0 : ((0 : Int) != 0) = false := rfl
    simp only [fn47L1, h1, h3, h48, d1, d2, n1, hm1, q1, hlt, hw, g0, Int.natCast_zero, V.closed, C.isD, List.length_append, List.append_assoc, List.map_cons, List.map_nil, ↓sp_ld, ↓sp_ixa, evs, Nat.reduceAdd]
  · rw [if_neg c]
    have g0 : ((ch : Int) != 0) = true := by rw [bne_iff_ne]; omega
    simp only [fn47L1, h1, h3, h48, d1, hlt, g0, List.length_append, List.append_assoc, List.map_cons, List.map_nil, ↓sp_ld, ↓sp_ixa, evs, Nat.reduceAdd]
end Mini
end Go.Proofs.YtgjlofpfbhioaaaGreatDoor
namespace Go.Proofs.YtgjlofpfbhioaaaGreatDoor
namespace Mini
open Go
variable {m : Int} {X : Ctx}
theorem under_c (n : Nat) (x : C) : V.under n (.c x) = C.under n x := rfl
theorem under_any (n : Nat) : V.under n .any = true := rfl
theorem uO_map (n : Nat) (es : List (List Nat × Nat)) : uO n (.map (esV es)) = true := esV_d es
theorem it47 (hX : XOr m X) {N : Nat} (hN : 6000 ≤ N) {H : Heap} {v : V} {l : List En} (hA : ArgE H v l) (hl : l.length < 5000) :
    ((∀ j, j < l.length → (l.getD j e0).chk = 0) ∧ iter (some [0, 3, 11, 12, 13]) (H.length + 1) (exec (zenv X N) N false fn47L1) N ⟨R47 v H.length l.length 0, H ++ [.map (esV (atP l 0))]⟩ =
        some (.exit 0, ⟨[v, .any, .any, .c (.mp H.length), .any, .any, .any, .any, .any, .any, .any, v, i64 (l.length : Int), i64 (l.length : Int), bl false, .any, .any, .any, .any, .any, .any, .any], H ++ [.map (esV (atP l l.length))]⟩)) ∨
    ∃ k, k < l.length ∧ (l.getD k e0).chk ≠ 0 ∧ (∀ j, j < k → (l.getD j e0).chk = 0) ∧ iter (some [0, 3, 11, 12, 13]) (H.length + 1) (exec (zenv X N) N false fn47L1) N ⟨R47 v H.length l.length 0, H ++ [.map (esV (atP l 0))]⟩ =
        some (.ret, ⟨[v, .c (.d .nils), i64 ((l.getD k e0).chk : Int), .c (.mp H.length), i64 (k : Int), .c (.ptr (H.length + 1) 0 0), i64 ((l.getD k e0).chk : Int), .any, .any, .any, .any, v, i64 (l.length : Int), i64 (k : Int), bl true, bl true, .any, .any, .any, .any, .any, .any], H ++ [.map (esV (atP l k)), .cells ((l.getD k e0).ds.map .d) 0 false]⟩) := by
  have hsc := iter_scan (js := some [0, 3, 11, 12, 13]) (hl := H.length + 1) (body := exec (zenv X N) N false fn47L1) (fun j => (l.getD j e0).chk ≠ 0) l.length (fun j => ⟨R47 v H.length l.length j, H ++ [.map (esV (atP l j))]⟩) (b := 0)
    (s1 := ⟨[v, .any, .any, .c (.mp H.length), .any, .any, .any, .any, .any, .any, .any, v, i64 (l.length : Int), i64 (l.length : Int), bl false, .any, .any, .any, .any, .any, .any, .any], H ++ [.map (esV (atP l l.length))]⟩)
    (s2 := fun k => ⟨[v, .c (.d .nils), i64 ((l.getD k e0).chk : Int), .c (.mp H.length), i64 (k : Int), .c (.ptr (H.length + 1) 0 0), i64 ((l.getD k e0).chk : Int), .any, .any, .any, .any, v, i64 (l.length : Int), i64 (k : Int), bl true, bl true, .any, .any, .any, .any, .any, .any], H ++ [.map (esV (atP l k)), .cells ((l.getD k e0).ds.map .d) 0 false]⟩)
    (fuel := N) (by omega)
    (by
      intro j hj hp
      have hp := Decidable.not_not.1 hp
      have hr := r47 hX (N := N) (by omega) hA (es := atP l j) hj (by omega)
      rw [if_pos hp] at hr
      refine ⟨_, hr, ?_⟩
      rw [show H ++ [.map (esV (setP (l.getD j e0).s j (atP l j))), .cells ((l.getD j e0).ds.map .d) 0 false] = (H ++ [.map (esV (atP l (j + 1)))]) ++ [.cells ((l.getD j e0).ds.map .d) 0 false] by rw [List.append_assoc]; rfl]
      have hlen : (H ++ [Ob.map (esV (atP l (j + 1)))]).length = H.length + 1 := by simp
      refine gc_back _ hlen.symm ?_ ?_
      · rw [hlen]
        have h1 := hA.und (H.length + 1) (by omega)
        have h2 : decide (H.length < H.length + 1) = true := decide_eq_true (by omega)
        simp only [keepOnly, List.all_cons, List.all_nil, under_c, under_any, C.under, h1, h2, Bool.and_self, List.contains_cons, List.contains_nil, Nat.reduceBEq, Nat.reduceAdd, Bool.or_false, Bool.or_true, i64, bl, if_true, Bool.false_eq_true, if_false, beq_self_eq_true]
      · rw [hlen]
        exact (hA.hp.mono (by omega)).app (Hp.cons (uO_map _ _) Hp.nil))
    (by
      have hlt : ¬ ((l.length : Int) < (l.length : Int)) := by omega
      simp only [fn47L1, hlt, evs])
    (by
      intro k hk hp
      have hr := r47 hX (N := N) (by omega) hA (es := atP l k) hk (by omega)
      rw [if_neg hp] at hr
      exact hr)
  rcases hsc with ⟨h1, h2⟩ | ⟨k, h1, h2, h3, h4⟩
  · exact .inl ⟨fun j hj => Decidable.not_not.1 (h1 j hj), h2⟩
  · exact .inr ⟨k, h1, h2, fun j hj => Decidable.not_not.1 (h3 j hj), h4⟩
theorem nx31 {α : Type} (H : List α) (a b c : α) : (H ++ [a, b, c])[H.length]? = some a := by
  rw [List.getElem?_append_right (Nat.le_refl _), Nat.sub_self]; rfl
theorem nx33 {α : Type} (H : List α) (a b c : α) : (H ++ [a, b, c])[H.length + 2]? = some c := by
  rw [List.getElem?_append_right (by omega), show H.length + 2 - H.length = 2 by omega]; rfl
theorem sx33 {α : Type} (H : List α) (a b c d : α) : (H ++ [a, b, c]).set (H.length + 2) d = H ++ [a, b, d] := by
  rw [List.set_append_right _ _ (by omega), show H.length + 2 - H.length = 2 by omega]; rfl
theorem nx42 {α : Type} (H : List α) (a b c d : α) : (H ++ [a, b, c, d])[H.length + 1]? = some b := by
  rw [List.getElem?_append_right (by omega), show H.length + 1 - H.length = 1 by omega]; rfl
theorem nx44 {α : Type} (H : List α) (a b c d : α) : (H ++ [a, b, c, d])[H.length + 3]? = some d := by
  rw [List.getElem?_append_right (by omega), show H.length + 3 - H.length = 3 by omega]; rfl
theorem sx42 {α : Type} (H : List α) (a b c d e : α) : (H ++ [a, b, c, d]).set (H.length + 1) e = H ++ [a, e, c, d] := by
  rw [List.set_append_right _ _ (by omega), show H.length + 1 - H.length = 1 by omega]; rfl
abbrev S47 (v : V) (M n i c k : Nat) : List V := [.any, .any, .any, .c (.mp M), .any, .any, .any, .c (.os (M + 1) 0 0 c 5 (some k)), .any, .any, .any, .any, .any, .any, .any, .any, .any, v, i64 (n : Int), i64 (i : Int), .any, .any]
theorem s47 (hX : XOr m X) {N : Nat} (hN : 3000 ≤ N) {H : Heap} {v : V} {l : List En} (hA : ArgE H v l) {es : List (List Nat × Nat)} {g : List En} {i k : Nat} (hi : i < l.length) (hl : l.length < 1000000) (hk : lookP (l.getD i e0).s es = some i) (hg : g.length < k) (hk2 : k < 1000000) :
    exec (zenv X N) N false fn47L0 ⟨S47 v H.length l.length i g.length k, H ++ [.map (esV es), .cells (eC g) 0 false]⟩ =
      some (.nrm, ⟨[.any, .any, .any, .c (.mp H.length), .any, .any, .any, .c (.os (H.length + 1) 0 0 (g.length + 1) 5 (some k)), i64 (i : Int), .c (.ptr (H.length + 2) 0 0), .any, .any, .any, .any, .any, .any, .any, v, i64 (l.length : Int), i64 ((i + 1 : Nat) : Int), bl true, bl true],
        H ++ [.map (esV es), .cells (eC (g ++ [newE (l.getD i e0)])) 0 false, .cells ((newE (l.getD i e0)).ds.map .d) 0 false, .cells ((newE (l.getD i e0)).ds.map .d) 0 false]⟩) := by
  have hm := getE_mem hi
  have hlt : (i : Int) < (l.length : Int) := by omega
  have hw := wrap_succ (k := i) (by omega)
  obtain ⟨p, h1, h2⟩ := hA.at' i hi
  obtain ⟨w1, w2⟩ := hA.wf _ hm
  obtain ⟨b1, b2⟩ := hA.sm _ hm
  have h79 : (zenv X N).vcall 79 [.c (.d (l.getD i e0).w)] = some (.c (.d (exD (l.getD i e0).l))) := hX.j.vc (k := 79) (F := fn79) rfl (f79 hX.j (by omega) w1 w2 (by omega))
  have hm1 := lookM_P (l.getD i e0).s es
  rw [hk] at hm1
  generalize l.getD i e0 = e at *
  have hsn : eC (g ++ [newE e]) = eC g ++ (newE e).ds.map .d := eC_snoc _ _
  have hgl : (eC g).length = g.length * 5 := eC_len g
  have n31 := nx31 H (.map (esV es)) (.cells (eC g) 0 false) (.cells (e.ds.map .d) 0 false)
  have n33 := nx33 H (.map (esV es)) (.cells (eC g) 0 false) (.cells (e.ds.map .d) 0 false)
  have n33' := nx33 H (.map (esV es)) (.cells (eC g) 0 false) (.cells ((newE e).ds.map .d) 0 false)
  have q33 := sx33 H (.map (esV es)) (.cells (eC g) 0 false) (.cells (e.ds.map .d) 0 false) (.cells ((newE e).ds.map .d) 0 false)
  have d1 : ldc false 1 (H ++ [.map (esV es), .cells (eC g) 0 false, .cells (e.ds.map .d) 0 false]) (.c (.ptr (H.length + 2) 0 0)) = some (.c (.d (.str e.s)), []) := by rw [ldc_ptr n33]; rfl
  have d2 : ldc false 1 (H ++ [.map (esV es), .cells (eC g) 0 false, .cells (e.ds.map .d) 0 false]) (.c (.ptr (H.length + 2) 0 4)) = some (.c (.d e.w), []) := by rw [ldc_ptr n33]; rfl
  have d3 : ldc true 5 (H ++ [.map (esV es), .cells (eC g) 0 false, .cells ((newE e).ds.map .d) 0 false]) (.c (.ptr (H.length + 2) 0 0)) = some (.agg ((newE e).ds.map .d), []) := by rw [ldc_ptr n33']; rfl
  have n42 := nx42 H (.map (esV es)) (.cells (eC g) 0 false) (.cells ((newE e).ds.map .d) 0 false) (.cells ((newE e).ds.map .d) 0 false)
  have n44 := nx44 H (.map (esV es)) (.cells (eC g) 0 false) (.cells ((newE e).ds.map .d) 0 false) (.cells ((newE e).ds.map .d) 0 false)
  have q42 := sx42 H (.map (esV es)) (.cells (eC g) 0 false) (.cells ((newE e).ds.map .d) 0 false) (.cells ((newE e).ds.map .d) 0 false) (.cells (eC g ++ (newE e).ds.map .d) 0 false)
  have sp1 : splice (eC g) (g.length * 5) ((newE e).ds.map .d) = eC g ++ (newE e).ds.map .d := by
    unfold splice
    rw [← hgl, List.take_length, List.drop_eq_nil_of_le (by omega), List.append_nil]
  have h3 := h2 [.map (esV es), .cells (eC g) 0 false]
  rw [hsn]
  have k1 : g.length * 5 ≤ (eC g).length := by omega
  have k2 : g.length + 1 ≤ 1073741824 := by omega
  have k3 : g.length + 1 ≤ k := by omega
  generalize eC g = cg at *
  generalize esV es = ev at *
  generalize g.length = gl at *
  obtain ⟨s, acc, r, t, w, ol⟩ := e
  simp only [newE, En.ds, List.map_cons, List.map_nil, i64, strV] at *
  have sA : splice [.d (.str s), .d (.bool acc), .d (.int .u8 (r : Int)), .d (.int .i64 t), .d w] 4 [.d (exD ol)] = [.d (.str s), .d (.bool acc), .d (.int .u8 (r : Int)), .d (.int .i64 t), .d (exD ol)] := rfl
  have sB : ∀ a b c d e : C, splice [.d (.str []), .d (.bool false), .d (.int .u8 0), .d (.int .i64 0), .d .nils] 0 [a, b, c, d, e] = [a, b, c, d, e] := fun _ _ _ _ _ => rfl
  simp only [fn47L0, sA, sB, h1, h3, h79, d1, d2, d3, n31, n33, q33, n42, n44, q42, sp1, hm1, hlt, hw, k1, k2, k3, lay, rep, elems, List.take, List.drop, List.length_append, List.append_assoc, Option.map_some, Option.getD_some, freeze_nil, reachV, reachC, ite_self, List.flatMap_cons, List.flatMap_nil, List.map_cons, List.map_nil, ↓sp_ld, ↓sp_ixa, evs, Nat.reduceAdd, Nat.reduceEqDiff, Nat.reduceLeDiff]
end Mini
end Go.Proofs.YtgjlofpfbhioaaaGreatDoor
namespace Go.Proofs.YtgjlofpfbhioaaaGreatDoor
namespace Mini
open Go
variable {m : Int} {X : Ctx}
theorem set_le (s : List Nat) (j : Nat) : ∀ es : List (List Nat × Nat), (setP s j es).length ≤ es.length + 1
  | [] => Nat.le_refl _
  | e :: es => by
    have := set_le s j es
    unfold setP
    split <;> simp only [List.length_cons] <;> omega
theorem at_le (l : List En) : ∀ n, (atP l n).length ≤ n
  | 0 => Nat.le_refl _
  | n + 1 => by
    have h1 := at_le l n
    have h2 := set_le (l.getD n e0).s n (atP l n)
    simp only [atP]
    omega
theorem t47 (_hX : XOr m X) {N : Nat} (_hN : 3000 ≤ N) {H : Heap} {v : V} {l : List En} (hA : ArgE H v l) {es : List (List Nat × Nat)} {g : List En} {i j k : Nat} (hi : i < l.length) (hl : l.length < 1000000) (hk : lookP (l.getD i e0).s es = some j) (hj : j ≠ i) :
    exec (zenv X N) N false fn47L0 ⟨S47 v H.length l.length i g.length k, H ++ [.map (esV es), .cells (eC g) 0 false]⟩ =
      some (.nrm, ⟨[.any, .any, .any, .c (.mp H.length), .any, .any, .any, .c (.os (H.length + 1) 0 0 g.length 5 (some k)), i64 (i : Int), .c (.ptr (H.length + 2) 0 0), .any, .any, .any, .any, .any, .any, .any, v, i64 (l.length : Int), i64 ((i + 1 : Nat) : Int), bl true, bl false],
        H ++ [.map (esV es), .cells (eC g) 0 false, .cells ((l.getD i e0).ds.map .d) 0 false]⟩) := by
  have hlt : (i : Int) < (l.length : Int) := by omega
  have hw := wrap_succ (k := i) (by omega)
  have hne : ((j : Int) == (i : Int)) = false := by rw [beq_eq_false_iff_ne]; omega
  obtain ⟨p, h1, h2⟩ := hA.at' i hi
  have hm1 := lookM_P (l.getD i e0).s es
  rw [hk] at hm1
  generalize l.getD i e0 = e at *
  have n31 := nx31 H (.map (esV es)) (.cells (eC g) 0 false) (.cells (e.ds.map .d) 0 false)
  have n33 := nx33 H (.map (esV es)) (.cells (eC g) 0 false) (.cells (e.ds.map .d) 0 false)
  have d1 : ldc false 1 (H ++ [.map (esV es), .cells (eC g) 0 false, .cells (e.ds.map .d) 0 false]) (.c (.ptr (H.length + 2) 0 0)) = some (.c (.d (.str e.s)), []) := by rw [ldc_ptr n33]; rfl
  have h3 := h2 [.map (esV es), .cells (eC g) 0 false]
  generalize eC g = cg at *
  generalize esV es = ev at *
  generalize g.length = gl at *
  obtain ⟨s, acc, r, t, w, ol⟩ := e
  simp only [En.ds, List.map_cons, List.map_nil, i64, strV] at *
  simp only [fn47L0, h1, h3, d1, n31, hm1, hlt, hw, hne, List.length_append, List.append_assoc, Option.map_some, Option.getD_some, ↓sp_ld, ↓sp_ixa, evs, Nat.reduceAdd]
theorem jt47 (hX : XOr m X) {N : Nat} (hN : 6000 ≤ N) {H : Heap} {v : V} {l : List En} (hA : ArgE H v l) (hl : l.length < 5000) {k : Nat} (hk : (atP l l.length).length = k) :
    iter (some [3, 7, 17, 18, 19]) (H.length + 2) (exec (zenv X N) N false fn47L0) N ⟨S47 v H.length l.length 0 0 k, H ++ [.map (esV (atP l l.length)), .cells [] 0 false]⟩ =
      some (.exit 2, ⟨[.any, .any, .any, .c (.mp H.length), .any, .any, .any, .c (.os (H.length + 1) 0 0 k 5 (some k)), .any, .any, .any, .any, .any, .any, .any, .any, .any, v, i64 (l.length : Int), i64 (l.length : Int), bl false, .any], H ++ [.map (esV (atP l l.length)), .cells (eC (keptJ l l.length l.length)) 0 false]⟩) := by
  have hkl : (keptJ l l.length l.length).length = k := by rw [kept_len, hk]
  refine iter_to (fun j => ⟨S47 v H.length l.length j (keptJ l l.length j).length k, H ++ [.map (esV (atP l l.length)), .cells (eC (keptJ l l.length j)) 0 false]⟩) (e := .exit 2) (fun h => by cases h) l.length 0 N (fun j _ hj => ?_) ?_ (by omega)
  · rw [Nat.zero_add] at hj
    have htd : ∀ (g : List En) (x y : V) (b : Bool) (t : Heap), tidy (H.length + 2) (some [3, 7, 17, 18, 19]) ⟨[.any, .any, .any, .c (.mp H.length), .any, .any, .any, .c (.os (H.length + 1) 0 0 g.length 5 (some k)), x, y, .any, .any, .any, .any, .any, .any, .any, v, i64 (l.length : Int), i64 ((j + 1 : Nat) : Int), bl true, bl b], (H ++ [.map (esV (atP l l.length)), .cells (eC g) 0 false]) ++ t⟩ = ⟨S47 v H.length l.length (j + 1) g.length k, H ++ [.map (esV (atP l l.length)), .cells (eC g) 0 false]⟩ := by
      intro g x y b t
      have hlen : (H ++ [Ob.map (esV (atP l l.length)), Ob.cells (eC g) 0 false]).length = H.length + 2 := by simp
      refine gc_back _ hlen.symm ?_ ?_
      · rw [hlen]
        have h1 := hA.und (H.length + 2) (by omega)
        have h2 : decide (H.length < H.length + 2) = true := decide_eq_true (by omega)
        have h3 : decide (H.length + 1 < H.length + 2) = true := decide_eq_true (by omega)
        simp only [keepOnly, List.all_cons, List.all_nil, under_c, under_any, C.under, h1, h2, h3, Bool.and_self, List.contains_cons, List.contains_nil, Nat.reduceBEq, Nat.reduceAdd, Bool.or_false, Bool.or_true, i64, bl, if_true, Bool.false_eq_true, if_false, beq_self_eq_true]
      · rw [hlen]
        exact (hA.hp.mono (by omega)).app (Hp.cons (uO_map _ _) (Hp.cons (eC_u _ _) Hp.nil))
    obtain ⟨q, hq⟩ := lookP_some l l.length j hj
    have hle := kept_le l l.length (l.length - (j + 1)) (j + 1) (by omega)
    rw [hkl] at hle
    by_cases c : q = j
    · subst c
      have hks : keptJ l l.length (q + 1) = keptJ l l.length q ++ [newE (l.getD q e0)] := by rw [keptJ, if_pos hq]
      rw [hks, List.length_append, List.length_singleton] at hle
      have hs := s47 hX (N := N) (by omega) hA (g := keptJ l l.length q) (k := k) hj (by omega) hq (by omega) (by have := at_le l l.length; omega)
      refine ⟨_, hs, ?_⟩
      have h4 := htd (keptJ l l.length q ++ [newE (l.getD q e0)]) (i64 (q : Int)) (.c (.ptr (H.length + 2) 0 0)) true [.cells ((newE (l.getD q e0)).ds.map .d) 0 false, .cells ((newE (l.getD q e0)).ds.map .d) 0 false]
      rw [List.length_append, List.length_singleton, List.append_assoc] at h4
      simp only [hks, List.length_append, List.length_singleton]
      exact h4
    · have hks : keptJ l l.length (j + 1) = keptJ l l.length j := by
        rw [keptJ, if_neg]
        rw [hq]
        exact fun h => c (Option.some.inj h)
      have hs := t47 hX (N := N) (by omega) hA (g := keptJ l l.length j) (k := k) hj (by omega) hq c
      refine ⟨_, hs, ?_⟩
      have h4 := htd (keptJ l l.length j) (i64 (j : Int)) (.c (.ptr (H.length + 2) 0 0)) false [.cells ((l.getD j e0).ds.map .d) 0 false]
      rw [List.append_assoc] at h4
      simp only [hks]
      exact h4
  · have hlt : ¬ ((l.length : Int) < (l.length : Int)) := by omega
    simp only [Nat.zero_add, hkl]
    simp only [fn47L0, hlt, evs]
end Mini
end Go.Proofs.YtgjlofpfbhioaaaGreatDoor
namespace Go.Proofs.YtgjlofpfbhioaaaGreatDoor
namespace Mini
open Go
variable {m : Int} {X : Ctx}
theorem frn_os (id gen off len sz' : Nat) (cap : Option Nat) (j sz : Nat) (regs : List V) (H : Heap) : frn (.c (.os id gen off len sz' cap)) j sz regs H = ⟨regs, H⟩ := rfl
theorem c47z (hX : XOr m X) {N : Nat} (hN : 7000 ≤ N) {H : Heap} {v : V} (hA : ArgE H v []) :
    callN X N (.d (.fn 47 [] [])) [v] H = some (.tup [.c (.d .nils), i64 0], H ++ [.map []]) := by
  obtain ⟨N, rfl⟩ : ∃ M, N = M + 1 := ⟨N - 1, by omega⟩
  have hlen := hA.len
  rcases it47 hX (N := N) (by omega) hA (by simp) with ⟨_, hit⟩ | ⟨k', h1, _⟩
  case inr => cases h1
  have n1 : (H ++ [Ob.map []])[H.length]? = some (.map []) := by rw [List.getElem?_append_right (Nat.le_refl _), Nat.sub_self]; rfl
  simp only [R47, atP, esV, List.map_nil, i64, bl, List.length_nil, Int.natCast_zero] at hit hlen
  rw [hX.fn (F := fn47') rfl]
  refine (rf_fin _ _ _ _ _ _ _ _ _ (by rfl)).trans ?_
  have hz : ¬ ((0 : Int) > 4096) := by decide
  simp only [hlen, hit, n1, hz, i64, Int.natCast_zero, List.length_append, List.append_assoc, ↓sp_len, evs, Nat.reduceAdd, Nat.reduceSub, Nat.reduceBEq]
theorem c47 (hX : XOr m X) {N : Nat} (hN : 7000 ≤ N) {H : Heap} {v : V} {l : List En} (hA : ArgE H v l) (hl : l.length ≤ 12) (h0 : 0 < l.length) (hb : ∀ j, j < l.length → (l.getD j e0).chk = 0) :
    ∃ g o, g.Perm (keptJ l l.length l.length) ∧ Asc3 g ∧ callN X N (.d (.fn 47 [] [])) [v] H = some (.tup [.c (.os (H.length + 1) 0 0 g.length 5 (some g.length)), i64 0], H ++ [o, .cells (eC g) 0 false]) := by
  obtain ⟨N, rfl⟩ : ∃ M, N = M + 1 := ⟨N - 1, by omega⟩
  have hlen := hA.len
  have hgt : ¬ ((l.length : Int) > 4096) := by omega
  rcases it47 hX (N := N) (by omega) hA (by omega) with ⟨_, hit⟩ | ⟨k', h1, h2, _⟩
  case inr => exact absurd (hb k' h1) h2
  have hit2 := jt47 hX (N := N) (by omega) hA (by omega) (k := (atP l l.length).length) rfl
  have hel := esV_len (atP l l.length)
  have hkl := kept_len l l.length
  have hal := at_le l l.length
  have hk0 : (atP l l.length).length ≠ 0 := by
    intro h
    have h2 := (lookP_some l l.length 0 h0)
    rw [List.length_eq_zero_iff.1 h] at h2
    obtain ⟨k, h3⟩ := h2
    cases h3
  have hH : Hp (H ++ [Ob.map (esV (atP l l.length)), .cells (eC (keptJ l l.length l.length)) 0 false]).length (H ++ [Ob.map (esV (atP l l.length)), .cells (eC (keptJ l l.length l.length)) 0 false]) := by
    have hlen : (H ++ [Ob.map (esV (atP l l.length)), Ob.cells (eC (keptJ l l.length l.length)) 0 false]).length = H.length + 2 := by simp
    rw [hlen]
    exact (hA.hp.mono (by omega)).app (Hp.cons (uO_map _ _) (Hp.cons (eC_u _ _) Hp.nil))
  obtain ⟨g, p1, p2, h80⟩ := c80 hX (N := N) (by omega) (cap := some (atP l l.length).length) hH (nx2 H _ _) hkl (by omega) (kept_nodup l l.length l.length)
  rw [sx2] at h80
  refine ⟨g, .map (esV (atP l l.length)), p1, p2, ?_⟩
  have hgl : g.length = (atP l l.length).length := by rw [p1.length_eq, hkl]
  rw [hgl]
  have n1 : (H ++ [Ob.map (esV (atP l l.length))])[H.length]? = some (.map (esV (atP l l.length))) := by rw [List.getElem?_append_right (Nat.le_refl _), Nat.sub_self]; rfl
  simp only [R47, S47, atP, i64, bl, cmpV, Int.natCast_zero] at hit hlen hit2 h80
  rw [show esV [] = [] from rfl] at hit
  generalize (atP l l.length).length = k at *
  have g0 : ((k : Int) == 0) = false := by rw [beq_eq_false_iff_ne]; omega
  have k1 : k * 56 ≤ 1099511627776 := by omega
  have k2 : k ≤ 1099511627776 := by omega
  generalize esV (atP l l.length) = ev at *
  generalize eC (keptJ l l.length l.length) = ek at *
  rw [hX.fn (F := fn47') rfl]
  refine (rf_fin _ _ _ _ _ _ _ _ _ (by rfl)).trans ?_
  simp only [hlen, hgt, hit, hit2, h80, hel, n1, g0, k1, k2, i64, ex_fresh, frn_os, rep, Nat.zero_le, List.length_append, List.append_assoc, List.map_cons, List.map_nil, ↓sp_len, evs, Nat.reduceAdd, Nat.reduceSub, Nat.reduceBEq]
end Mini
end Go.Proofs.YtgjlofpfbhioaaaGreatDoor
namespace Go.Proofs.YtgjlofpfbhioaaaGreatDoor
namespace Mini
open Go
variable {m : Int} {X : Ctx}
def liveD (l : List En) (i : Nat) : Nat → Bool
  | 0 => true
  | d + 1 => liveD l i d && !((l.getD (i + 1 + d) e0).s == (l.getD i e0).s)
theorem liveD_iff (l : List En) (i : Nat) : ∀ d, liveD l i d = true ↔ lastE l (i + 1 + d) i
  | 0 => ⟨fun _ k h1 h2 => by omega, fun _ => rfl⟩
  | d + 1 => by
    simp only [liveD, Bool.and_eq_true, Bool.not_eq_true', beq_eq_false_iff_ne, liveD_iff l i d]
    constructor
    · rintro ⟨h1, h2⟩ k h3 h4
      by_cases c : k = i + 1 + d
      · rw [c]; exact h2
      · exact h1 k h3 (by omega)
    · exact fun h => ⟨fun k h3 h4 => h k h3 (by omega), h _ (by omega) (by omega)⟩
abbrev lvE (l : List En) : V := .c (.d (.sl (l.flatMap En.ds) l.length))
theorem lv_at {l : List En} {i : Nat} (hi : i < l.length) : ∃ t, ixac 5 i (lvE l) = some (.c (.d (.ip (En.ds (l.getD i e0) ++ t))), []) := isEns.at (.inr rfl) hi
abbrev V14 (lv gv : V) (cnt i : Nat) (a b c d : V) : List V := [.any, .any, lv, gv, i64 0, i64 (cnt : Int), i64 (i : Int), a, b, c, d, .any, .any, .any, .any, .any, .any, .any, .any, .any]
theorem i14L2 {N : Nat} {H : Heap} {gv : V} {l : List En} (hl : l.length < 1000) (hN : 1000 ≤ N) (_hgv : ∀ k, H.length ≤ k → V.under k gv = true) {i cnt : Nat} (hi : i < l.length) :
    iter (some [2, 3, 4, 5, 6, 7, 8]) H.length (exec (zenv X N) N false fn14L2) N ⟨V14 (lvE l) gv cnt i (bl true) (i64 ((i + 1 : Nat) : Int)) .any .any, H⟩ =
      some (.exit 2, ⟨[.any, .any, lvE l, gv, i64 0, i64 (cnt : Int), i64 (i : Int), bl (liveD l i (l.length - (i + 1))), i64 (l.length : Int), .any, .any, .any, .any, bl false, .any, .any, .any, .any, .any, .any], H⟩) := by
  have hlen : lenc (lvE l) = some (i64 (l.length : Int), []) := rfl
  have h := iter_to (js := some [2, 3, 4, 5, 6, 7, 8]) (hl := H.length) (body := exec (zenv X N) N false fn14L2) (fun d => ⟨V14 (lvE l) gv cnt i (bl (liveD l i d)) (i64 ((i + 1 + d : Nat) : Int)) .any .any, H⟩) (e := .exit 2) (s := ⟨[.any, .any, lvE l, gv, i64 0, i64 (cnt : Int), i64 (i : Int), bl (liveD l i (l.length - (i + 1))), i64 (l.length : Int), .any, .any, .any, .any, bl false, .any, .any, .any, .any, .any, .any], H⟩) (fun h => by cases h) (l.length - (i + 1)) 0 N ?_ ?_ (by omega)
  · exact h
  · intro d _ hd
    rw [Nat.zero_add] at hd
    obtain ⟨t, h1⟩ := lv_at hi
    obtain ⟨t', h2⟩ := lv_at (l := l) (i := i + 1 + d) (by omega)
    have hlt : ((i + 1 + d : Nat) : Int) < (l.length : Int) := by omega
    have hw := wrap_succ (k := i + 1 + d) (by omega)
    refine ⟨⟨[.any, .any, lvE l, gv, i64 0, i64 (cnt : Int), i64 (i : Int), bl (liveD l i (d + 1)), i64 ((i + 1 + d + 1 : Nat) : Int), .any, .any, .any, .any, bl true, .any, .any, .any, .any, .any, .any], H⟩, ?_, gc_le (Nat.le_refl _)⟩
    simp only [liveD]
    generalize l.getD i e0 = a at *
    generalize l.getD (i + 1 + d) e0 = b at *
    obtain ⟨sa, aa, ar, at', aw, al⟩ := a
    obtain ⟨sb, ba, br, bt, bw, bl'⟩ := b
    generalize i + 1 + d = j at *
    simp only [En.ds] at h1 h2
    generalize lvE l = lv at *
    cases liveD l i d with
    | true => simp only [fn14L2, V14, binStr, hlen, h1, h2, hlt, hw, Bool.true_and, List.take, List.drop, List.map_cons, List.map_nil, lt5_0, ↓sp_len, ↓sp_ixa, evs]
    | false => simp only [fn14L2, V14, hlen, hlt, hw, Bool.false_and, ↓sp_len, evs]
  · have hlt : ¬ ((l.length : Int) < (l.length : Int)) := by omega
    have he : i + 1 + (0 + (l.length - (i + 1))) = l.length := by omega
    rw [Nat.zero_add] at he
    simp only [Nat.zero_add, he]
    generalize lvE l = lv at *
    simp only [fn14L2, V14, hlen, hlt, ↓sp_len, evs]
theorem deep_at {H : Heap} {id k n : Nat} {g : List En} {f : Bool} {c : Option Nat} (hH : H[id]? = some (.cells (eC g) 0 f)) (hn : g.length = n) (hk : k < n) : deepC H deepMax (.os id 0 (k * 5) 1 5 c) = some (.sl (g.getD k e0).ds 1) := by
  have hal := eC_len g
  have hsp : g = g.take k ++ g.getD k e0 :: g.drop (k + 1) := by rw [← dropE (by omega), List.take_append_drop]
  have p2 : ((eC g).drop (k * 5)).take (1 * 5) = (g.getD k e0).ds.map .d := by
    have h := eC_at (g.take k) (g.drop (k + 1)) (g.getD k e0) (k := k) (by rw [List.length_take]; omega)
    rw [← hsp] at h
    exact h
  have p1 : k * 5 + 1 * 5 ≤ (eC g).length := by omega
  simp only [deepMax, deepC, ob_eq, hH, if_true, if_pos p1, p2, mapO_d, Option.map_some]
def hitN (g : List En) (e : En) : Nat → Nat
  | 0 => 0
  | k + 1 => hitN g e k + if eqE (g.getD k e0) e then 1 else 0
theorem alike_1 (a b : En) : alikeE [a] [b] ↔ eqE a b := ⟨fun h => h.2 0 (by simp), fun h => ⟨rfl, fun j hj => by
  have : j = 0 := by simpa using hj
  subst this
  exact h⟩⟩
theorem hitN_le (g : List En) (e : En) : ∀ k, hitN g e k ≤ k
  | 0 => Nat.le_refl _
  | k + 1 => by
    have := hitN_le g e k
    unfold hitN
    split <;> omega
theorem i14L1 (hX : XOr m X) {N : Nat} (hN : 1000 ≤ N) {H : Heap} {id : Nat} {l g : List En} (hl : l.length < 1000) (hg : g.length < 400) (_hid : id < H.length) (hH : H[id]? = some (.cells (eC g) 0 false)) (hw : wfEs l) (hwg : wfEs g) (hsm : ∀ e ∈ g, e.l.length ≤ 300) {i cnt : Nat} (hi : i < l.length) :
    iter (some [2, 3, 4, 5, 6, 9, 10]) H.length (exec (zenv X N) N false fn14L1) N ⟨V14 (lvE l) (.c (.os id 0 0 g.length 5 (some g.length))) cnt i .any .any (i64 0) (i64 0), H⟩ =
      some (.exit 4, ⟨[.any, .any, lvE l, .c (.os id 0 0 g.length 5 (some g.length)), i64 0, i64 (cnt : Int), i64 (i : Int), .any, .any, i64 (hitN g (l.getD i e0) g.length : Int), i64 (g.length : Int), .any, .any, .any, .any, bl false, .any, .any, .any, .any], H⟩) := by
  have h := iter_to (js := some [2, 3, 4, 5, 6, 9, 10]) (hl := H.length) (body := exec (zenv X N) N false fn14L1) (fun k => ⟨V14 (lvE l) (.c (.os id 0 0 g.length 5 (some g.length))) cnt i .any .any (i64 (hitN g (l.getD i e0) k : Int)) (i64 (k : Int)), H⟩) (e := .exit 4) (s := ⟨[.any, .any, lvE l, .c (.os id 0 0 g.length 5 (some g.length)), i64 0, i64 (cnt : Int), i64 (i : Int), .any, .any, i64 (hitN g (l.getD i e0) g.length : Int), i64 (g.length : Int), .any, .any, .any, .any, bl false, .any, .any, .any, .any], H⟩) (fun h => by cases h) g.length 0 N ?_ ?_ (by omega)
  · exact h
  · intro k _ hk
    rw [Nat.zero_add] at hk
    have hlt : (k : Int) < (g.length : Int) := by omega
    have hw1 := wrap_succ (k := k) (by omega)
    have hw2 := wrap_succ (k := i) (by omega)
    have hw3 := wrap_succ (k := hitN g (l.getD i e0) k) (by have := hitN_le g (l.getD i e0) k; omega)
    have hdp := deep_at (c := some (g.length - k)) hH rfl hk
    have hsl : ((l.flatMap En.ds).drop (i * 5)).take 5 = (l.getD i e0).ds := by
      rw [flD_drop (k := 5) (fun _ _ => rfl), dropE hi, List.flatMap_cons, List.take_append_of_le_length (by exact Nat.le_refl _), List.take_of_length_le (by exact Nat.le_refl _)]
    have hcl : (l.flatMap En.ds).length = l.length * 5 := flD_len (k := 5) fun _ _ => rfl
    have hmg := getE_mem hk
    have h39 : (zenv X N).vcall 39 [.c (.d (.sl (g.getD k e0).ds 1)), .c (.d (.sl (l.getD i e0).ds 1))] = some (i64 (if alikeE [g.getD k e0] [l.getD i e0] then 1 else 0)) :=
      hX.j.vc (k := 39) (F := fn39) rfl (f39 hX.j (u := [g.getD k e0]) (v := [l.getD i e0]) (by simp only [List.length_singleton]; omega) (.inr (by simp)) (.inr (by simp)) (fun e he => by rw [List.mem_singleton.1 he]; exact hwg _ hmg) (fun e he => by rw [List.mem_singleton.1 he]; exact hw _ (getE_mem hi)) (by simp) (fun e he => by rw [List.mem_singleton.1 he]; exact hsm _ hmg))
    have k1 : k ≤ k + 1 := by omega
    have k2 : k + 1 ≤ g.length := hk
    have k3 : k + 1 - k = 1 := by omega
    have k4 : i ≤ i + 1 := by omega
    have k5 : i + 1 ≤ l.length := hi
    have k6 : i + 1 - i = 1 := by omega
    have hgl : lenc (.c (.os id 0 0 g.length 5 (some g.length))) = some (i64 (g.length : Int), []) := rfl
    have hdd : ∀ x, deepC H deepMax (.d x) = some x := fun _ => rfl
    simp only [hitN]
    generalize hitN g (l.getD i e0) k = hk0 at *
    by_cases c : eqE (g.getD k e0) (l.getD i e0)
    · rw [if_pos ((alike_1 _ _).2 c)] at h39
      refine ⟨⟨[.any, .any, lvE l, .c (.os id 0 0 g.length 5 (some g.length)), i64 0, i64 (cnt : Int), i64 (i : Int), .any, .any, i64 ((hk0 + 1 : Nat) : Int), i64 ((k + 1 : Nat) : Int), .any, .any, .any, .any, bl true, bl true, .any, .any, .any], H⟩, ?_, ?_⟩
      · generalize (l.getD i e0).ds = es at *
        generalize (g.getD k e0).ds = gs at *
        simp only [i64] at h39 hgl
        simp only [fn14L1, V14, lvE, optNat, hgl, hlt, hw1, hw2, hw3, hdp, hdd, hsl, hcl, h39, k1, k2, k3, k4, k5, k6, Nat.le_refl, Option.map_some, Option.map_none, ↓sp_len, evs]
      · rw [if_pos c]
        exact gc_le (Nat.le_refl _)
    · rw [if_neg fun h => c ((alike_1 _ _).1 h)] at h39
      refine ⟨⟨[.any, .any, lvE l, .c (.os id 0 0 g.length 5 (some g.length)), i64 0, i64 (cnt : Int), i64 (i : Int), .any, .any, i64 (hk0 : Int), i64 ((k + 1 : Nat) : Int), .any, .any, .any, .any, bl true, bl false, .any, .any, .any], H⟩, ?_, ?_⟩
      · generalize (l.getD i e0).ds = es at *
        generalize (g.getD k e0).ds = gs at *
        have g01 : ((0 : Int) == 1) = false := rfl
        simp only [i64] at h39 hgl
        simp only [fn14L1, V14, lvE, optNat, hgl, hlt, hw1, hw2, hdp, hdd, hsl, hcl, h39, g01, k1, k2, k3, k4, k5, k6, Nat.le_refl, Option.map_some, Option.map_none, ↓sp_len, evs]
      · rw [if_neg c]
        exact gc_le (Nat.le_refl _)
  · have hlt : ¬ ((g.length : Int) < (g.length : Int)) := by omega
    have hgl : lenc (.c (.os id 0 0 g.length 5 (some g.length))) = some (i64 (g.length : Int), []) := rfl
    simp only [Nat.zero_add]
    generalize lvE l = lv at *
    simp only [i64] at hgl
    simp only [fn14L1, V14, hgl, hlt, ↓sp_len, evs]
end Mini
end Go.Proofs.YtgjlofpfbhioaaaGreatDoor
namespace Go.Proofs.YtgjlofpfbhioaaaGreatDoor
namespace Mini
open Go
variable {m : Int} {X : Ctx}
theorem nodup_at {g : List En} (h : (g.map En.s).Nodup) {i j : Nat} (hi : i < g.length) (hj : j < g.length) (hs : (g.getD i e0).s = (g.getD j e0).s) : i = j := by
  have hp := List.pairwise_iff_getElem.1 h
  have key : ∀ i j, i < j → j < g.length → (g.getD i e0).s = (g.getD j e0).s → False := by
    intro i j hij hj hs
    have := hp i j (by rw [List.length_map]; omega) (by rw [List.length_map]; omega) hij
    rw [List.getElem_map, List.getElem_map] at this
    rw [List.getD_eq_getElem?_getD, List.getD_eq_getElem?_getD, List.getElem?_eq_getElem (by omega), List.getElem?_eq_getElem hj] at hs
    exact this hs
  rcases Nat.lt_trichotomy i j with c | c | c
  · exact (key i j c hj hs).elim
  · exact c
  · exact (key j i c hi hs.symm).elim
theorem hit_one {g : List En} {e : En} (h : (g.map En.s).Nodup) {j : Nat} (hj : j < g.length) (hje : eqE (g.getD j e0) e) : hitN g e g.length = 1 := by
  have key : ∀ k, k ≤ g.length → hitN g e k = if j < k then 1 else 0 := by
    intro k
    induction k with
    | zero => intro _; rfl
    | succ k ih =>
      intro hk
      rw [hitN, ih (by omega)]
      by_cases c : k = j
      · subst c
        rw [if_pos hje, if_neg (by omega), if_pos (by omega)]
      · have : ¬ eqE (g.getD k e0) e := fun h2 => c (nodup_at h (by omega) hj (h2.1.trans hje.1.symm))
        rw [if_neg this]
        by_cases c2 : j < k
        · rw [if_pos c2, if_pos (by omega)]
        · rw [if_neg c2, if_neg (by omega)]
  rw [key _ (Nat.le_refl _), if_pos hj]
theorem mem_at {g : List En} {e : En} (h : e ∈ g) : ∃ j, j < g.length ∧ g.getD j e0 = e := by
  obtain ⟨j, hj, he⟩ := List.getElem_of_mem h
  exact ⟨j, hj, by rw [List.getD_eq_getElem?_getD, List.getElem?_eq_getElem hj]; exact he⟩
theorem r14n (_hX : XOr m X) {N : Nat} (hN : 1000 ≤ N) {H : Heap} {id cnt i gl : Nat} {l : List En} (hl : l.length < 1000) (hid : id < H.length) (hi : i < l.length) (hla : ¬ lastE l l.length i) :
    exec (zenv X N) N false fn14L3 ⟨V14 (lvE l) (.c (.os id 0 0 gl 5 (some gl))) cnt i .any .any .any .any, H⟩ =
      some (.nrm, ⟨[.any, .any, lvE l, .c (.os id 0 0 gl 5 (some gl)), i64 0, i64 (cnt : Int), i64 ((i + 1 : Nat) : Int), bl false, i64 (l.length : Int), .any, .any, .any, .any, bl false, bl true, .any, .any, .any, .any, .any], H⟩) := by
  have hit := i14L2 (X := X) (N := N) (H := H) (gv := .c (.os id 0 0 gl 5 (some gl))) hl hN (fun k hk => by rw [under_c, C.under]; exact decide_eq_true (by omega)) (cnt := cnt) hi
  have hf : liveD l i (l.length - (i + 1)) = false := by
    cases h : liveD l i (l.length - (i + 1)) with
    | false => rfl
    | true =>
      have := (liveD_iff l i _).1 h
      rw [show i + 1 + (l.length - (i + 1)) = l.length by omega] at this
      exact absurd this hla
  rw [hf] at hit
  have hlen : lenc (lvE l) = some (i64 (l.length : Int), []) := rfl
  have hlt : (i : Int) < (l.length : Int) := by omega
  have hw := wrap_succ (k := i) (by omega)
  generalize lvE l = lv at *
  simp only [V14, i64, bl] at hit hlen ⊢
  simp only [fn14L3, hit, hlen, hlt, hw, Bool.not_false, ↓sp_len, evs, Nat.reduceAdd, Nat.reduceBEq]
theorem r14y (hX : XOr m X) {N : Nat} (hN : 1000 ≤ N) {H : Heap} {id cnt i : Nat} {l g : List En} (hl : l.length < 1000) (hg : g.length < 400) (hid : id < H.length) (hH : H[id]? = some (.cells (eC g) 0 false)) (hw : wfEs l) (hwg : wfEs g) (hsm : ∀ e ∈ g, e.l.length ≤ 300) (hi : i < l.length) (hla : lastE l l.length i) (h1 : hitN g (l.getD i e0) g.length = 1) (hcnt : cnt < 1000) :
    exec (zenv X N) N false fn14L3 ⟨V14 (lvE l) (.c (.os id 0 0 g.length 5 (some g.length))) cnt i .any .any .any .any, H⟩ =
      some (.nrm, ⟨[.any, .any, lvE l, .c (.os id 0 0 g.length 5 (some g.length)), i64 0, i64 ((cnt + 1 : Nat) : Int), i64 ((i + 1 : Nat) : Int), .any, .any, i64 1, i64 (g.length : Int), .any, .any, .any, .any, bl false, .any, bl false, .any, .any], H⟩) := by
  have hit := i14L2 (X := X) (N := N) (H := H) (gv := .c (.os id 0 0 g.length 5 (some g.length))) hl hN (fun k hk => by rw [under_c, C.under]; exact decide_eq_true (by omega)) (cnt := cnt) hi
  have hf : liveD l i (l.length - (i + 1)) = true := by
    refine (liveD_iff l i _).2 ?_
    rw [show i + 1 + (l.length - (i + 1)) = l.length by omega]
    exact hla
  rw [hf] at hit
  have hit1 := i14L1 hX hN hl hg hid hH hw hwg hsm (cnt := cnt + 1) hi
  rw [h1] at hit1
  have hlen : lenc (lvE l) = some (i64 (l.length : Int), []) := rfl
  have hlt : (i : Int) < (l.length : Int) := by omega
  have hw1 := wrap_succ (k := i) (by omega)
  have hw2 := wrap_succ (k := cnt) (by omega)
  have g1 : ((1 : Int) != 1) = false := rfl
  generalize lvE l = lv at *
  simp only [V14, i64, bl, Int.natCast_one] at hit hit1 hlen ⊢
  simp only [fn14L3, hit, hit1, hlen, hlt, hw1, hw2, g1, Bool.not_true, ↓sp_len, evs, Nat.reduceAdd, Nat.reduceBEq]
theorem i14L3 (hX : XOr m X) {N : Nat} (hN : 1000 ≤ N) {H : Heap} {id : Nat} {l g : List En} (hl : l.length < 1000) (hg : g.length < 400) (hid : id < H.length) (hH : H[id]? = some (.cells (eC g) 0 false)) (hw : wfEs l) (hwg : wfEs g) (hsm : ∀ e ∈ g, e.l.length ≤ 300) (hp : g.Perm (keptJ l l.length l.length)) :
    iter (some [2, 3, 4, 5, 6]) H.length (exec (zenv X N) N false fn14L3) N ⟨V14 (lvE l) (.c (.os id 0 0 g.length 5 (some g.length))) 0 0 .any .any .any .any, H⟩ =
      some (.exit 0, ⟨[.any, .any, lvE l, .c (.os id 0 0 g.length 5 (some g.length)), i64 0, i64 (g.length : Int), i64 (l.length : Int), .any, .any, .any, .any, .any, bl false, .any, .any, .any, .any, .any, .any, .any], H⟩) := by
  have hnd : (g.map En.s).Nodup := (hp.map En.s).nodup_iff.2 (kept_nodup l l.length l.length)
  have hgl : g.length = (keptJ l l.length l.length).length := hp.length_eq
  refine iter_to (fun i => ⟨V14 (lvE l) (.c (.os id 0 0 g.length 5 (some g.length))) (keptJ l l.length i).length i .any .any .any .any, H⟩) (e := .exit 0) (fun h => by cases h) l.length 0 N (fun i _ hi => ?_) ?_ (by omega)
  · rw [Nat.zero_add] at hi
    have hle := kept_le l l.length (l.length - i) i (by omega)
    have hiff := lookP_at l l.length i hi
    by_cases c : lookP (l.getD i e0).s (atP l l.length) = some i
    · have hm : newE (l.getD i e0) ∈ g := hp.mem_iff.2 ((kept_mem l l.length l.length).2 ⟨i, hi, c, rfl⟩)
      obtain ⟨j, hj, hje⟩ := mem_at hm
      have h1 := hit_one hnd hj (e := l.getD i e0) (by rw [hje]; exact ⟨rfl, rfl, rfl, rfl, rfl⟩)
      refine ⟨_, r14y hX hN hl hg hid hH hw hwg hsm hi (hiff.1 c) h1 (by omega), ?_⟩
      rw [keptJ, if_pos c, List.length_append]
      exact gc_le (Nat.le_refl _)
    · refine ⟨_, r14n hX hN hl hid hi (fun h => c (hiff.2 h)), ?_⟩
      rw [keptJ, if_neg c]
      exact gc_le (Nat.le_refl _)
  · have hlt : ¬ ((l.length : Int) < (l.length : Int)) := by omega
    have hlen : lenc (lvE l) = some (i64 (l.length : Int), []) := rfl
    simp only [Nat.zero_add, ← hgl]
    generalize lvE l = lv at *
    simp only [i64] at hlen
    simp only [fn14L3, V14, hlen, hlt, ↓sp_len, evs]
theorem i14L0 {N : Nat} (hN : 1000 ≤ N) {H : Heap} {id : Nat} {g : List En} {x4 x5 : V} (hx4 : ∃ c, x4 = i64 c) (hx5 : ∃ c, x5 = i64 c) (hg : g.length < 400) (h0 : 0 < g.length) (_hid : id < H.length) (hH : H[id]? = some (.cells (eC g) 0 false)) (ha : Asc3 g) :
    iter (some [3, 4, 5, 11]) H.length (exec (zenv X N) N false fn14L0) N ⟨[.any, .any, .any, .c (.os id 0 0 g.length 5 (some g.length)), x4, x5, .any, .any, .any, .any, .any, i64 1, .any, .any, .any, .any, .any, .any, .any, .any], H⟩ =
      some (.exit 6, ⟨[.any, .any, .any, .c (.os id 0 0 g.length 5 (some g.length)), x4, x5, .any, .any, .any, .any, .any, i64 (g.length : Int), .any, .any, .any, .any, .any, .any, bl false, .any], H⟩) := by
  obtain ⟨c4, rfl⟩ := hx4
  obtain ⟨c5, rfl⟩ := hx5
  have hgl : lenc (.c (.os id 0 0 g.length 5 (some g.length))) = some (i64 (g.length : Int), []) := rfl
  have h := iter_to (js := some [3, 4, 5, 11]) (hl := H.length) (body := exec (zenv X N) N false fn14L0) (fun k => ⟨[.any, .any, .any, .c (.os id 0 0 g.length 5 (some g.length)), i64 c4, i64 c5, .any, .any, .any, .any, .any, i64 ((1 + k : Nat) : Int), .any, .any, .any, .any, .any, .any, .any, .any], H⟩) (e := .exit 6) (s := ⟨[.any, .any, .any, .c (.os id 0 0 g.length 5 (some g.length)), i64 c4, i64 c5, .any, .any, .any, .any, .any, i64 (g.length : Int), .any, .any, .any, .any, .any, .any, bl false, .any], H⟩) (fun h => by cases h) (g.length - 1) 0 N ?_ ?_ (by omega)
  · exact h
  · intro k _ hk
    rw [Nat.zero_add] at hk
    have hlt : ((1 + k : Nat) : Int) < (g.length : Int) := by omega
    have hw := wrap_succ (k := 1 + k) (by omega)
    have w1 : IntKind.i64.wrap (((1 + k : Nat) : Int) - 1) = (k : Int) := by rw [show ((1 + k : Nat) : Int) - 1 = ((k : Nat) : Int) by omega]; exact wrap_nat (by omega)
    have dA : ∀ j, j < g.length → ldc false 1 H (.c (.ptr id 0 (j * 5))) = some (.c (.d (.str (g.getD j e0).s)), []) := by
      intro j hj
      have hsp : g = g.take j ++ g.getD j e0 :: g.drop (j + 1) := by rw [← dropE (by omega), List.take_append_drop]
      have h := eC_at (g.take j) (g.drop (j + 1)) (g.getD j e0) (k := j) (by rw [List.length_take]; omega)
      rw [← hsp] at h
      rw [ldc_ptr hH, show ((eC g).drop (j * 5)).take 1 = (((eC g).drop (j * 5)).take 5).take 1 by rw [List.take_take]; rfl, h]
      rfl
    have d1 := dA k (by omega)
    have d2 := dA (1 + k) (by omega)
    have hls : strLess (g.getD k e0).s (g.getD (1 + k) e0).s = true := by
      have := List.pairwise_iff_getElem.1 ha k (1 + k) (by omega) (by omega) (by omega)
      rw [List.getD_eq_getElem?_getD, List.getD_eq_getElem?_getD, List.getElem?_eq_getElem (by omega), List.getElem?_eq_getElem (by omega)]
      exact this
    have k1 : k < g.length := by omega
    have k2 : 1 + k < g.length := by omega
    refine ⟨⟨[.any, .any, .any, .c (.os id 0 0 g.length 5 (some g.length)), i64 c4, i64 c5, .any, .any, .any, .any, .any, i64 ((1 + k + 1 : Nat) : Int), .any, .any, .any, .any, .any, .any, bl true, bl false], H⟩, ?_, gc_le (Nat.le_refl _)⟩
    generalize 1 + k = j at *
    simp only [i64] at hgl
    simp only [fn14L0, binStr, hgl, hlt, hw, w1, d1, d2, hls, k1, k2, Bool.not_true, ↓sp_ld, ↓sp_len, ↓sp_ixa, evs]
  · have hlt : ¬ ((g.length : Int) < (g.length : Int)) := by omega
    simp only [show 1 + (0 + (g.length - 1)) = g.length by omega]
    simp only [i64] at hgl
    simp only [fn14L0, hgl, hlt, ↓sp_len, evs]
end Mini
end Go.Proofs.YtgjlofpfbhioaaaGreatDoor
namespace Go.Proofs.YtgjlofpfbhioaaaGreatDoor
namespace Mini
open Go
variable {m : Int} {X : Ctx}
theorem argE_closed {l : List En} (hc : ∀ e ∈ l, e.chk = 0) (hw : wfEs l) (h7 : ∀ e ∈ l, e.l.length ≤ 300) (H : Heap) (hp : Hp H.length H) : ArgE H (lvE l) l where
  len := rfl
  at' := fun i hi => by
    obtain ⟨t, h⟩ := lv_at hi
    refine ⟨_, h, fun H2 => ?_⟩
    rfl
  und := fun k _ => rfl
  hp := hp
  wf := hw
  sm := fun e he => by
    have h1 := nameB_ok (chkE_parts (hc e he)).1
    have h2 := h7 e he
    omega
theorem f14 (hX : XOr m X) {N : Nat} (hN : 20000 ≤ N) {w : D} {xs : List Ej} (hw : isEjs w xs) (hx : ∀ x ∈ xs, wfJ x) : vcallN X N 14 [.c (.d w)] = some (bl true) := by
  obtain ⟨N, rfl⟩ : ∃ M, N = M + 1 := ⟨N - 1, by omega⟩
  have h35 := hX.j.vc (k := 35) (F := fn35) rfl (f35 hX.j (N := N) (by omega) hw hx)
  have hlv := f40 hX.j (N := N) (by omega)
  obtain ⟨t1, t2, t3⟩ := lstJ_ok xs (min xs.length 12)
  have hln := lstJ_len xs (min xs.length 12)
  generalize hl : lstJ xs (min xs.length 12) = l at *
  have h12 : l.length ≤ 12 := by omega
  rw [← hln] at h35
  have hA := argE_closed t1 t2 (fun e he => by have := t3 e he; omega) [] Hp.nil
  suffices h : ∃ H, callN X (N + 1) (.d (.fn 14 [] [])) [.c (.d w)] [] = some (bl true, H) by
    obtain ⟨H, h⟩ := h
    exact vcall_of h rfl
  rw [hX.fn (F := fn14') rfl]
  by_cases c0 : l.length = 0
  · have hnil := List.length_eq_zero_iff.1 c0
    subst hnil
    have h47 := c47z hX (N := N) (by omega) hA
    obtain ⟨M, rfl⟩ : ∃ M, N = M + 1 := ⟨N - 1, by omega⟩
    have hlen : lenc (lvE []) = some (i64 0, []) := rfl
    have hlt : ¬ ((0 : Int) < 0) := by omega
    have hlt1 : ¬ ((1 : Int) < 0) := by omega
    have hb3 : exec (zenv X (M + 1)) (M + 1) false fn14L3 ⟨V14 (lvE []) (.c (.d .nils)) 0 0 .any .any .any .any, [.map []]⟩ = some (.exit 0, ⟨[.any, .any, lvE [], .c (.d .nils), i64 0, i64 0, i64 0, .any, .any, .any, .any, .any, bl false, .any, .any, .any, .any, .any, .any, .any], [.map []]⟩) := by
      generalize lvE [] = lv at *
      simp only [i64] at hlen
      simp only [fn14L3, V14, hlen, hlt, Int.natCast_zero, ↓sp_len, evs]
    have hb0 : exec (zenv X (M + 1)) (M + 1) false fn14L0 ⟨[.any, .any, .any, .c (.d .nils), i64 0, i64 0, .any, .any, .any, .any, .any, i64 1, .any, .any, .any, .any, .any, .any, .any, .any], [.map []]⟩ = some (.exit 6, ⟨[.any, .any, .any, .c (.d .nils), i64 0, i64 0, .any, .any, .any, .any, .any, i64 1, .any, .any, .any, .any, .any, .any, bl false, .any], [.map []]⟩) := by
      simp only [fn14L0, hlt1, ↓sp_len, evs]
    have hi3 := iter_stop (js := some [2, 3, 4, 5, 6]) (hl := 1) (n := M) hb3
    have hi0 := iter_stop (js := some [3, 4, 5, 11]) (hl := 1) (n := M) hb0
    refine ⟨[.map []], (rf_fin _ _ _ _ _ _ _ _ _ (by rfl)).trans ?_⟩
    generalize hlvg : lvE [] = lv at *
    have h35' : (zenv X (M + 1)).vcall 35 [.c (.d w)] = some lv := by rw [h35, ← hlvg]
    simp only [V14, i64, bl, List.nil_append, Int.natCast_zero] at h47 hi3 hi0 hlv ⊢
    simp only [h35', h47, hi3, hi0, hlv, freeze_nil, reachV, reachC, ite_self, List.flatMap_cons, List.flatMap_nil, List.map_cons, List.map_nil, ↓sp_len, evs, Nat.reduceAdd, Nat.reduceSub, Nat.reduceBEq]
  · obtain ⟨g, o, p1, p2, h47⟩ := c47 hX (N := N) (by omega) hA h12 (by omega) (fun j hj => t1 _ (getE_mem hj))
    have hkn := kept_len l l.length
    have hal := at_le l l.length
    have hgl : g.length = (atP l l.length).length := by rw [p1.length_eq, hkn]
    have hgm : ∀ e ∈ g, ∃ j, j < l.length ∧ e = newE (l.getD j e0) := fun e he => by
      obtain ⟨j, q1, _, q2⟩ := (kept_mem l l.length l.length).1 (p1.mem_iff.1 he)
      exact ⟨j, q1, q2⟩
    have hwg : wfEs g := fun e he => by
      obtain ⟨j, q1, rfl⟩ := hgm e he
      exact ⟨exD_is _, (t2 _ (getE_mem q1)).2⟩
    have hsm : ∀ e ∈ g, e.l.length ≤ 300 := fun e he => by
      obtain ⟨j, q1, rfl⟩ := hgm e he
      have := t3 _ (getE_mem q1)
      show (l.getD j e0).l.length ≤ 300
      omega
    have h0g : 0 < g.length := by
      obtain ⟨k, hk⟩ := lookP_some l l.length 0 (by omega)
      rcases Nat.eq_zero_or_pos g.length with h | h
      · rw [h] at hgl
        rw [List.length_eq_zero_iff.1 hgl.symm] at hk
        cases hk
      · exact h
    have hH : ([o, Ob.cells (eC g) 0 false] : Heap)[1]? = some (.cells (eC g) 0 false) := rfl
    have hi3 := i14L3 hX (N := N) (by omega) (H := [o, .cells (eC g) 0 false]) (id := 1) (l := l) (by omega) (by omega) (by simp) hH t2 hwg hsm p1
    have hi0 := i14L0 (X := X) (N := N) (by omega) (H := [o, .cells (eC g) 0 false]) (id := 1) (x4 := i64 0) (x5 := i64 (g.length : Int)) ⟨_, rfl⟩ ⟨_, rfl⟩ (by omega) h0g (by simp) hH p2
    refine ⟨[o, .cells (eC g) 0 false], (rf_fin _ _ _ _ _ _ _ _ _ (by rfl)).trans ?_⟩
    generalize hlvg : lvE l = lv at *
    have h35' : (zenv X N).vcall 35 [.c (.d w)] = some lv := by rw [h35, ← hlvg]
    have gg : ((g.length : Int) == (g.length : Int)) = true := by rw [beq_iff_eq]
    generalize eC g = cg at *
    generalize g.length = n at *
    generalize l.length = ll at *
    simp only [V14, i64, bl, List.nil_append, List.length_nil, List.length_cons, Nat.zero_add, Nat.reduceAdd, Int.natCast_zero] at h47 hi3 hi0 hlv ⊢
    simp only [h35', h47, hi3, hi0, hlv, gg, freeze_nil, reachV, reachC, ite_self, List.flatMap_cons, List.flatMap_nil, List.map_cons, List.map_nil, ↓sp_len, evs, Nat.reduceAdd, Nat.reduceSub, Nat.reduceBEq]
end Mini
end Go.Proofs.YtgjlofpfbhioaaaGreatDoor
