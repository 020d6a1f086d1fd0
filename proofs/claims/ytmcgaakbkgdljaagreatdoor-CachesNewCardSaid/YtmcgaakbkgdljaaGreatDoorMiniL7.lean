/-
  slices.Delete of one element as a primitive of the abstract machine.
-/
import Derived.Test.YtmcgaakbkgdljaaGreatDoorMiniL6
import Derived.Test.YtmcgaakbkgdljaaGreatDoorMiniE24
import Derived.Laws.IdiomCopy
namespace Go.Proofs.YtmcgaakbkgdljaaGreatDoor
namespace Mini
open Go Go.Shelf Go.RowKit Go.Lib Go.Sort

/-- Integers of the kind int. -/
def int64Of : C → Option Int
  | .d (.int .i64 n) => some n
  | _ => none
/-- slices.Delete of one element, on a slice of numbers. -/
def delV (vs : List V) (H : Heap) : Option (V × Heap) :=
  match vs with
  | [.c (.os id g off len 1 cap), .c (.d (.int .i64 i)), .c (.d (.int .i64 j))] =>
    match ob? H id with
    | some (.cells cs g' false) =>
      if g' = g ∧ off + len ≤ cs.length ∧ 0 ≤ i ∧ i.toNat < len ∧ j = i + 1 then
        match mapO int64Of ((cs.drop off).take len) with
        | some zs => some (.c (.os id g off (len - 1) 1 cap), setOb H id (.cells (splice cs off ((zs.take i.toNat ++ zs.drop (i.toNat + 1) ++ [0]).map fun z => .d (.int .i64 z))) g false))
        | none => none
      else none
    | _ => none
  | _ => none

theorem fr_drewN (M : MM) (w : World) (q : Nat) : Fr M M w (w.drewN q) := ⟨Ext.refl M, rfl, rfl, rfl, Nat.le_refl _, fun _ _ _ => rfl, fun _ h => .inl h, fun _ _ h => .inl h⟩

theorem delV_ok {G : Nat → Option (List D)} {vs : List V} {H H' : Heap} {r : V} (h : delV vs H = some (r, H')) : Enters Tryz.prog 34 ∧ HeapPrim Tryz.prog G 34 vs H r H' := by
  unfold delV at h
  split at h <;> try (cases h; done)
  rename_i id g off len cap i j
  split at h <;> try (cases h; done)
  rename_i cs g' ho
  split at h <;> try (cases h; done)
  rename_i hc
  obtain ⟨rfl, hc1, hc2, hc3, rfl⟩ := hc
  split at h <;> try (cases h; done)
  rename_i zs hz
  simp only [Option.some.injEq, Prod.mk.injEq] at h
  obtain ⟨rfl, rfl⟩ := h
  refine ⟨⟨Tryz.f34, by kernel_rfl, by kernel_rfl, by kernel_rfl⟩, ?_⟩
  intro M w us hG hrel hlen hs
  match us, hlen, hrel with
  | [u1, u2, u3], _, hrel =>
  simp only [RelVs, and_true] at hrel
  obtain ⟨h1, h2, h3⟩ := hrel
  rw [relV_int] at h2 h3
  subst h2 h3
  rw [relV_c] at h1
  obtain ⟨a, c, rfl, hlc, _, hcase⟩ := live_os hs (Sub.refl H) ho h1
  rcases hcase with ⟨_, _, rfl, _⟩ | ⟨B, b0, bs, fz', hl, ha, hbs, _⟩
  · omega
  have ha' : a = some ⟨B, b0 + off, none⟩ := ha.resolve_left (by omega)
  subst ha'
  obtain ⟨hg, arr, T, fr, e1, e2, e3, e4, e5, e6⟩ := hs.open ho hl
  obtain ⟨hzl, hzg⟩ := mapO_get hz
  have hzlen : zs.length = len := by rw [← hzl, List.length_take, List.length_drop]; omega
  obtain ⟨n, rfl⟩ : ∃ n : Nat, i = (n : Int) := ⟨i.toNat, by omega⟩
  simp only [Int.toNat_natCast] at hc3 ⊢
  have cell : ∀ j, j < zs.length → arr[b0 + off + j]? = some (.int .i64 zs[j]!) := by
    intro j hj
    obtain ⟨x, hx, hxz⟩ := hzg j zs[j] (List.getElem?_eq_getElem hj)
    rw [List.getElem?_take, if_pos (by omega), List.getElem?_drop] at hx
    obtain ⟨v, hv, hr⟩ := RelCs.iff.1 e4 _ _ hx
    rw [List.getElem?_drop, Array.getElem?_toList] at hv
    have hxe : x = .d (.int .i64 zs[j]) := by
      unfold int64Of at hxz
      split at hxz <;> simp_all
    subst hxe
    simp only [RelC, RelD] at hr
    subst hr
    rw [show b0 + off + j = b0 + (off + j) by omega, hv, getElem!_pos zs j hj]
  have hH : Go.Sort.Holds (Value.int .i64) w B (b0 + off) zs.toArray := by
    intro j hj
    have hj' : j < zs.length := by simpa using hj
    have hlt : b0 + off + j < arr.size := by rw [e2]; omega
    refine ⟨?_, ?_⟩
    · have := cell j hj'
      simp only [World.cell?, e1]
      rw [this]
      simp
    · have := e5 (b0 + off + j) (by omega)
      simp only [World.frozen?, e1]
      simpa using this
  have walk := del_walk lays_n23 B (b0 + off) c n zs.toArray w hH (by simpa [hzlen] using hlc) (by simpa [hzlen] using hc3)
  have hargs : (#[.slice (some ⟨B, b0 + off, none⟩) zs.toArray.size c, .int .i64 n, .int .i64 ((n + 1 : Nat) : Int)] : Array Value) = [.slice (some ⟨B, b0 + off, none⟩) len c, .int .i64 (n : Int), .int .i64 ((n : Int) + 1)].toArray := by
    simp [hzlen]
  rw [hargs] at walk
  refine Calls.mono (f := 34) walk fun e w' hh => ?_
  obtain ⟨rfl, q, rfl⟩ := hh
  have hys : (zs.take n ++ zs.drop (n + 1) ++ [0]).length = zs.toArray.size := by simp; omega
  rw [putRow_eq_setCells (Value.int .i64) w B (b0 + off) zs.toArray _ q hH hys]
  have hrc : RelCs M ((zs.take n ++ zs.drop (n + 1) ++ [0]).map fun z => C.d (.int .i64 z)) ((zs.take n ++ zs.drop (n + 1) ++ [0]).map (Value.int .i64)) := by
    generalize zs.take n ++ zs.drop (n + 1) ++ [0] = ys
    rw [RelCs.iff]
    intro j d hd
    rw [List.getElem?_map, Option.map_eq_some_iff] at hd
    obtain ⟨y, hy, rfl⟩ := hd
    exact ⟨.int .i64 y, by rw [List.getElem?_map, hy]; rfl, by simp only [RelC, RelD]⟩
  have hone : ∀ u ∈ (zs.take n ++ zs.drop (n + 1) ++ [0]).map (Value.int .i64), u.oneCell' = true := by
    intro u hu
    obtain ⟨x, _, rfl⟩ := List.mem_map.1 hu
    rfl
  have hyl : (zs.take n ++ zs.drop (n + 1) ++ [0]).length = len := by rw [hys]; simpa using hzlen
  obtain ⟨w1, M', t1, t2, t3, t4, t5⟩ := store_row (P := Tryz.prog) (w := w.drewN q) (hs.heap rfl) ho hl (off := off) hrc (by simp) (by omega) (by simp only [List.length_map, hyl]; omega) hone
  have hcells := run_storeCells_cells (P := Tryz.prog) B (b0 + off) ((zs.take n ++ zs.drop (n + 1) ++ [0]).map (Value.int .i64)) 0 (w.drewN q)
    (fun j hj => by
      simp only [List.length_map, hyl] at hj
      have := (hH j (by simp; omega)).1
      rw [Nat.add_zero]
      show (w.cell? _).isSome = true
      rw [this]; rfl)
    (fun j hj => by
      simp only [List.length_map, hyl] at hj
      rw [Nat.add_zero]
      exact (hH j (by simp; omega)).2) hone
  rw [Nat.add_zero, t1] at hcells
  simp only [Result.ok.injEq, true_and] at hcells
  subst hcells
  have h1' := RelC.mono ((fr_drewN M w q).trans t3).ext h1
  refine ⟨_, M', rfl, ?_, t2, (fr_drewN M w q).trans t3⟩
  rw [relV_c]
  simp only [RelC] at h1' ⊢
  obtain ⟨k1, k2, a', c', k3, k4, k5, k6, k7⟩ := h1'
  simp only [Value.slice.injEq] at k3
  obtain ⟨rfl, _, rfl⟩ := k3
  exact ⟨k1, k2, _, _, by simp [hzlen], by omega, k5, k6, k7⟩
end Mini
end Go.Proofs.YtmcgaakbkgdljaaGreatDoor
