/-
  slices.Delete of one element, on a slice of numbers: the library's own text, walked (after the worked walk DeepDelWalks).
-/
import Derived.Test.YtmcgaakbkgdljaaGreatDoorMiniL1
import Derived.WalkKit
import Derived.Deep.RegionLaw
namespace Go.Proofs.YtmcgaakbkgdljaaGreatDoor
namespace Mini
open Go Go.Shelf Go.RowKit Go.Lib Go.Sort
variable {P : Program} {ρ : Ren}

set_option maxHeartbeats 4000000 in
set_option maxRecDepth 1000000 in
theorem del_walk (L : Lays2.n23 P ρ) (b off cap i : Nat) (d : Array Int) (w : World) (hH : Holds encI w b off d) (hcap : d.size ≤ cap) (hi : i < d.size) :
    Calls P (ρ.f 23) #[.slice (some ⟨b, off, none⟩) d.size cap, .int .i64 i, .int .i64 ((i + 1 : Nat) : Int)] w fun e w' => e = .returned (.slice (some ⟨b, off, none⟩) (d.size - 1) cap) ∧ ∃ q, w' = putRow encI (Sort.ahead w q) b off (d.toList.take i ++ d.toList.drop (i + 1) ++ [0]).toArray := by
  have mixed := L.mixed; have t0 := L.t0; have a0 := L.a0; have z0 := L.z0; have v0 := L.v0; have t3 := L.t3; have a3 := L.a3; have z3 := L.z3; have v3 := L.v3; have t4 := L.t4; have a4 := L.a4; have z4 := L.z4; have v4 := L.v4; have t22 := L.t22; have a22 := L.a22; have z22 := L.z22; have v22 := L.v22
  obtain ⟨i0, hi0, hz0, hz1, hz2⟩ := info_parts L.i3
  obtain ⟨j, hj⟩ : ∃ j, j = i + 1 := ⟨_, rfl⟩
  have hlt : i < j := by omega
  have hjd : j ≤ d.size := by omega
  -- the cells that go to the left
  obtain ⟨news, hnews⟩ : ∃ news, news = (d.toList.drop j).map encI := ⟨_, rfl⟩
  have hlen : news.length = d.size - j := by rw [hnews]; simp
  have hget : ∀ t, t < d.size - j → news[t]? = some (encI d[j + t]!) := fun t ht => by
    rw [hnews, List.getElem?_map, List.getElem?_drop, Array.getElem?_toList, getElem!_pos d (j + t) (by omega), Array.getElem?_eq_getElem (by omega)]
    rfl
  obtain ⟨A, hA, hsrc⟩ : ∃ A : Addr, (if cap = j then some (⟨b, off, none⟩ : Addr) else some ⟨b, off + j, none⟩) = some A ∧ Hid (∀ t u, news[t]? = some u → w.drew.cell? (A.add t) = some u) := by
    by_cases h : cap = j
    · refine ⟨⟨b, off, none⟩, by simp [h], fun t u hu => ?_⟩
      have h0 : news.length = 0 := by rw [hlen]; omega
      rw [List.length_eq_zero_iff.1 h0] at hu
      simp at hu
    · refine ⟨⟨b, off + j, none⟩, by simp [h], fun t u hu => ?_⟩
      have ht : t < d.size - j := by
        have := (List.getElem?_eq_some_iff.1 hu).1
        rwa [hlen] at this
      rw [hget t ht] at hu
      rw [Addr.add_lit, show off + j + t = off + (j + t) by omega]
      exact (hH (j + t) (by omega)).1.trans hu
  have s1 : Hid (news.length = (d.size - j) * 1) := by rw [Nat.mul_one]; exact hlen
  have s2 : Hid (∀ u ∈ news, u.oneCell' = true) := by
    intro u hu
    rw [hnews] at hu
    obtain ⟨x, _, rfl⟩ := List.mem_map.1 hu
    rfl
  have s3 : Hid (∀ t, t < news.length → (w.drew.cell? ⟨b, off + i * 1 + t, none⟩).isSome = true ∧ w.drew.frozen? ⟨b, off + i * 1 + t, none⟩ = false) := by
    intro t ht
    rw [hlen] at ht
    rw [Nat.mul_one, Nat.add_assoc]
    exact ⟨by show (w.cell? _).isSome = true; rw [(hH (i + t) (by omega)).1]; rfl, (hH (i + t) (by omega)).2⟩
  obtain ⟨W1, hW1⟩ : ∃ W1, W1 = w.drew.setCells b (off + i * 1) news := ⟨_, rfl⟩
  have hW1' : W1 = putRow encI (Sort.ahead w 1) b off (lay d i (d.toList.drop j)) := by
    rw [hW1, hnews, Nat.mul_one, ← putRow_setCells encI (Sort.ahead w 1) b off _ d i (by simp; omega), putRow_self encI (Sort.ahead w 1) b off d (holds_ahead encI w 1 b off d hH)]
    rfl
  have hH1 : Holds encI W1 b off (lay d i (d.toList.drop j)) := by rw [hW1']; exact holds_putRow encI _ b off d _ (holds_ahead encI w 1 b off d hH) (lay_size _ _ _)
  have hcl : ∀ ty, (Builtin.clear_ #[ρ.t 22] ty #[.slice (some ⟨b, off + (i + (d.size - j)), none⟩) (d.size - (i + (d.size - j))) (cap - (i + (d.size - j)))]).run P W1 = .ok (.tuple #[]) (W1.setCells b (off + (i + (d.size - j))) (List.replicate (d.size - (i + (d.size - j))) (encI 0))) :=
    fun ty => Lib.run_clear_slice W1 _ _ ty _ t22 v3 rfl rfl b (off + (i + (d.size - j))) _ _ (by omega) (fun t ht => by rw [show off + (i + (d.size - j)) + t = off + (i + (d.size - j) + t) by omega, (hH1 _ (by rw [lay_size]; omega)).1]; rfl) (fun t ht => by rw [show off + (i + (d.size - j)) + t = off + (i + (d.size - j) + t) by omega]; exact (hH1 _ (by rw [lay_size]; omega)).2)
  have X : Aside (W1 = putRow encI (Sort.ahead w 1) b off (lay d i (d.toList.drop j))) := hW1'
  have hW : Hid (W1 = w.drew.setCells b (off + i * 1) news) := hW1
  have hJ : Hid (j = i + 1) := hj
  have hic : i ≤ cap := by omega
  have hjc : j ≤ cap := by omega
  have heq : i ≠ j := by omega
  rw [← hj]
  clear hW1 hW1' hH1 hH hget hnews hlen hj
  go_enter L.f23, Body2.n23_ntmps ρ
  go_wp2_with fail
  go_region_law_o (refine step_append_room rfl (.tmp 22) (.tmp 25) (ρ.t 22) rfl (ρ.t 3) i0 1 t22 hi0 hz1 b off i cap (by simp [Act.eval, Act.put]) A (d.size - j) (cap - j) news (by simp [Act.eval, Act.put]) s1.out hsrc.out s2.out (by omega) s3.out ?_; rw [← hW.out])
  go_wp2
  go_ret
  have hj := hJ.out
  refine ⟨by rw [show d.size - 1 = i + (d.size - j) by omega]; rfl, 1, ?_⟩
  have e1 : j - i = 1 := by omega
  have := delete_arr d i j 0 (by omega) hjd
  rw [e1, List.replicate_one] at this
  rw [← this, ← putRow_setCells encI _ b off _ _ (i + (d.size - j)) (by rw [lay_size]; simp; omega), ← X.out, show d.size - (i + (d.size - j)) = 1 by omega]
  rfl
end Mini
end Go.Proofs.YtmcgaakbkgdljaaGreatDoor
