/- Given for the print: a word reversed, by hand: letters into a row, the row reversed in place, the row into a word. -/
import Derived.Test.YtjmcffejpgblfaaPFGivA
import Derived.RegionTactic
import Derived.Sort.WalkB12
import Derived.Lib.SlicesMore
import Derived.Lib.OwnBridge
namespace Go.Proofs.Ytjmcffejpgblfaa.PF
open Go.RowKit Go.Lib Go.Sort Go.Proofs.YtjmcffejpgblfaaW.PrintWords Go.Proofs.YtjmcffejpgblfaaW.PrintLast Go.Proofs.YtjmcffejpgblfaaW.PrintMore
set_option linter.unusedVariables false
set_option linter.unusedSimpArgs false

def encB : Int → Value := Value.int .u8

set_option maxHeartbeats 1600000 in
set_option maxRecDepth 1000000 in
theorem reverse_bytes (blk off cap : Nat) (d : Array Int) (w : World) (hH : Holds encB w blk off d) (hsz : d.size ≤ 9223372036854775807) :
    Calls Try.prog 64 #[.slice (some ⟨blk, off, none⟩) d.size cap] w fun e w' => e = .returned (.tuple #[]) ∧ ∃ n, w' = putRow encB (Sort.ahead w n) blk off d.reverse := by
  go_enter Try.func64, Try.ntmps64
  go_wp2
  go_loopg [2, 3] d.size (fun k s2 s3 wr => ∃ (i jn : Nat) (jz : Int) (dk : Array Int) (n : Nat), s2 = .int .i64 i ∧ s3 = .int .i64 jz ∧ ((i : Int) < jz → jz = jn ∧ jn < d.size) ∧ (¬ (i : Int) < jz → ¬ i < jn) ∧ jn - i ≤ k ∧
    dk.size = d.size ∧ wr = putRow encB (Sort.ahead w n) blk off dk ∧ reverseLoop i jn dk = reverseLoop 0 (d.size - 1) d)
  case atStart => exact ⟨0, d.size - 1, (d.size : Int) - 1, d, 0, rfl, by go_num, fun h => ⟨by omega, by omega⟩, fun h => by omega, by omega, rfl, (putRow_self encB w blk off d hH).symm, rfl⟩
  case round =>
    obtain ⟨i, jn, jz, dk, n, rfl, rfl, h1, h2, hk, hds, hwr, heq⟩ := hrel
    by_cases hlt : (i : Int) < jz
    · obtain ⟨rfl, hjn⟩ := h1 hlt
      have hij : i < jn := by omega
      have hHk : Holds encB wr blk off dk := by rw [hwr]; exact holds_putRow encB _ blk off d dk (holds_ahead encB w n blk off d hH) hds
      obtain ⟨ci, fi⟩ := hHk i (by omega)
      obtain ⟨cj, fj⟩ := hHk jn (by omega)
      have A : Aside (wr = putRow encB (Sort.ahead w n) blk off dk) := hwr
      have hi1 : i < d.size := by omega
      simp only [encB] at ci cj
      clear hwr hHk hH h1 h2
      go_wp2_with fail
      go_region
      go_wp2
      go_roundg (jn - 1 - (i + 1))
      case measure => omega
      case rel =>
        rw [reverseLoop, if_pos hij] at heq
        exact ⟨i + 1, jn - 1, (jn : Int) - 1, swp dk i jn, n + 1, by go_num, by go_num, fun h => ⟨by omega, by omega⟩, fun h => by omega, Nat.le_refl _, by rw [size_swp]; exact hds,
          swap_world encB (by omega) (by omega) A.out (by first | rfl | simp [encB, getElem!_pos, show jn < dk.size by omega]) (by first | rfl | simp [encB, getElem!_pos, show i < dk.size by omega]), heq⟩
    · have hnot := h2 hlt
      go_wp2
      go_end0
      refine ⟨rfl, n, ?_⟩
      rw [reverseLoop, if_neg hnot] at heq
      rw [← Lib.reverseLoop_reverse, ← heq]

theorem bytes_holds (W : World) (e : TypeId) (a : ByteArray) : Holds encB (Lib.bytesWorld W e a) W.heap.size 0 (bytesOf a).toArray := by
  intro j hj
  have hj' : j < a.size := by rw [List.size_toArray, bytesOf_length] at hj; exact hj
  rw [Nat.zero_add]
  have hl : j < a.data.toList.length := by rw [data_length]; exact hj'
  refine ⟨?_, ?_⟩
  · rw [Lib.bytesWorld_cell W e a j hj', getElem!_pos _ j hj]
    simp only [encB, bytesOf, List.getElem_toArray, List.getElem_map, List.getD_eq_getElem?_getD, List.getElem?_eq_getElem hl, Option.getD_some]
  · have hc : j < (Lib.bytesCells W e a).size := by
      simp only [Lib.bytesCells, Array.size_append, Array.size_map]
      have : a.data.size = a.size := rfl
      omega
    simp only [World.frozen?, Lib.bytesWorld_at_new]
    simp
    omega

/-- The word from its end to its beginning. -/
def rev (a : ByteArray) : ByteArray := strOfNums (bytesOf a).reverse
def impl_reversed.f (a : ByteArray) : Option ByteArray := if a.size ≤ 9000000000000000000 then some (rev a) else none

theorem rev_reads (w : World) (e : TypeId) (a : ByteArray) (n : Nat) (ha : a.size ≤ 9000000000000000000) : ReadsInt (putRow encB (Sort.ahead (Lib.bytesWorld w e a) n) w.heap.size 0 (bytesOf a).reverse.toArray) .u8 (some ⟨w.heap.size, 0, none⟩) a.size (bytesOf a).reverse := by
  rw [← List.reverse_toArray]
  have hH := holds_putRow encB (Sort.ahead (Lib.bytesWorld w e a) n) w.heap.size 0 (bytesOf a).toArray (bytesOf a).toArray.reverse (holds_ahead encB _ n _ _ _ (bytes_holds w e a)) (by simp)
  refine ⟨by rw [List.length_reverse, bytesOf_length], by omega, fun _ => ⟨_, rfl, fun j hj => ?_⟩⟩
  have hj' : j < (bytesOf a).toArray.reverse.size := by simp [bytesOf_length]; exact hj
  have h := (hH j hj').1
  rw [Nat.zero_add, getElem!_pos _ j hj'] at h
  rw [add_plain, h]
  have hr : j < (bytesOf a).reverse.length := by rw [List.length_reverse, bytesOf_length]; exact hj
  simp [encB]
  rw [List.getElem?_eq_getElem hr, Option.getD_some, List.getElem_reverse]

set_option maxHeartbeats 2000000 in
set_option maxRecDepth 100000 in
theorem impl_reversed.calls (a : ByteArray) (r : ByteArray) (w : World) (h : impl_reversed.f a = some r) :
    Calls Try.prog 49 #[.string a] w fun e w' => e = .returned (.string r) ∧ Below w.heap.size w w' := by
  unfold impl_reversed.f at h
  by_cases ha : a.size ≤ 9000000000000000000
  case neg => rw [if_neg ha] at h; cases h
  rw [if_pos ha] at h
  obtain rfl := Option.some.inj h
  have hcall := Aside0.mk (fun (W : World) (c : Nat) => reverse_bytes W.heap.size 0 c (bytesOf a).toArray (Lib.bytesWorld W 5 a) (bytes_holds W 5 a) (by simp [bytesOf_length]; omega))
  have hstr := Aside0.mk (fun (n c : Nat) => string_of_reads (src := 22) (dst := 9) (c := c) Try.underlying22 Try.underlying5 Try.underlying9 (rev_reads w 5 a n ha))
  have hconv := Lib.run_convert_string_bytes (P := Try.prog) w 9 22 5 a Try.underlying9 Try.underlying22 Try.underlying5
  have hb : Aside0 (∀ n, Below w.heap.size w (putRow encB (Sort.ahead (Lib.bytesWorld w 5 a) n) w.heap.size 0 (bytesOf a).reverse.toArray)) :=
    ⟨fun n => below_putRow ⟨rfl, rfl, rfl, by rw [Lib.bytesWorld_size]; omega, fun k hk => Lib.bytesWorld_at_old w 5 a k hk⟩ (Nat.le_refl _)⟩
  have hcl := hcall.out w (grownCap w a.size 0 5)
  rw [show (bytesOf a).toArray.size = a.size by simp [bytesOf_length]] at hcl
  have hcall2 := Aside0.mk hcl
  clear h hcall hcl
  go_enter Try.func49, Try.ntmps49
  go_wp2_with (go_at_call 64; (with_reducible refine hcall2.out.mono ?_); rintro e w1 ⟨rfl, n, hw⟩; rw [List.reverse_toArray] at hw; subst hw; have hs1 := hstr.out n (grownCap w a.size 0 5))
  go_ret
  exact ⟨rfl, hb.out n⟩

end Go.Proofs.Ytjmcffejpgblfaa.PF
