/- Given for the print: slices.Sort at letters, and a word's letters in order (impl.sortedWord): letters into a row, the row sorted in place, the row into a word. -/
import Derived.Test.YtippkbjdifmdnaaPFGivSd
import Derived.Test.YtippkbjdifmdnaaPFLibSo
import Derived.RegionTactic
namespace Go.Proofs.Ytippkbjdifmdnaa.PF
open Go.RowKit Go.Lib Go.Sort Go.Proofs.YtippkbjdifmdnaaW.PrintWords Go.Proofs.YtippkbjdifmdnaaW.PrintLast Go.Proofs.YtippkbjdifmdnaaW.PrintMore
set_option linter.unusedVariables false
set_option linter.unusedSimpArgs false

theorem same : Same := ⟨same_ins, same_heap, same_rev, same_pin, same_peq, same_prt⟩

/-- Letters in order. -/
def sortB (l : List Int) : List Int := l.mergeSort (fun x y => !ltInt y x)

set_option maxHeartbeats 2000000 in
set_option maxRecDepth 100000 in
theorem sort_b (w0 : World) (g n cp : Nat) (hn : n < 4611686018427387904) (l : List Int) (w : World) (hR : RB w0 g n cp w l) :
    Calls Try.prog 68 #[.slice (some ⟨g, 0, none⟩) n cp] w fun e w' => e = .returned (.tuple #[]) ∧ RB w0 g n cp w' (sortB l) := by
  have hk : bitsLen n ≤ 62 := (bitsLen_le_iff n 62).2 (by omega)
  have hLen : ∀ w, Calls Try.prog 83 #[.int .u64 (n : Int)] w fun e w' => e = .returned (.int .i64 (bitsLen n : Nat)) ∧ w' = w := fun w => by
    have h := Try.bits_Len (n : Int) w (by omega) (by omega)
    rwa [Int.toNat_natCast, bitLen_eq _ (by omega)] at h
  have hp := pdq_b same w0 g n cp hn (n + 1) 0 n (bitsLen n) l w (by omega) hR (Nat.zero_le _) (Nat.le_refl _) (by omega) (Or.inl rfl)
  have hq : ∀ r : List Int, PermIn 0 n l.toArray r.toArray → SortedIn ltInt 0 n r.toArray → r = sortB l := by
    intro r h1 h2
    have h3 := sorted_unique_holds (lt := ltInt) swo_ltInt (fun x y h1 h2 => by simp only [ltInt, decide_eq_false_iff_not] at h1 h2; omega) l.toArray r.toArray (by rw [hR.size]; exact h1) (by rw [hR.size]; exact h2)
    simpa [sortB] using h3
  have HP := Aside0.mk hp
  have HQ := Aside0.mk hq
  clear hp hq hR
  go_enter Try.func68, Try.ntmps68
  go_wp2_with (first
    | (go_at_call 83; refine (hLen _).mono ?_; rintro e w' ⟨rfl, rfl⟩)
    | (go_at_call 82; refine HP.out.mono ?_; rintro e w' ⟨rfl, r, hr, h1, h2⟩; obtain rfl := HQ.out r h1 h2))
  go_end0
  exact ⟨rfl, hr⟩

theorem bytes_holds (W : World) (e : TypeId) (a : ByteArray) : Holds encB (Lib.bytesWorld W e a) W.heap.size 0 (bytesOf a).toArray := by
  intro j hj
  have hj' : j < a.size := by rw [List.size_toArray, bytesOf_length] at hj; exact hj
  rw [Nat.zero_add]
  have hl : j < a.data.toList.length := by rw [data_length]; exact hj'
  refine ⟨?_, ?_⟩
  · rw [Lib.bytesWorld_cell W e a j hj', getElem!_pos _ j hj]
    simp only [encB, bytesOf, List.getElem_toArray, List.getElem_map, List.getD_eq_getElem?_getD, List.getElem?_eq_getElem hl, Option.getD_some]
  · have hc : j < (Lib.bytesCells W e a).size := by
      simp only [Lib.bytesCells, Array.size_append, Array.size_map]
      have : a.data.size = a.size := rfl
      omega
    simp only [World.frozen?, Lib.bytesWorld_at_new]
    simp
    omega

theorem bytes_RB (w : World) (a : ByteArray) (ha : a.size < 4611686018427387904) : RB w w.heap.size a.size (grownCap w a.size 0 5) (Lib.bytesWorld w 5 a) (bytesOf a) :=
  RB.of ⟨rfl, rfl, rfl, by rw [Lib.bytesWorld_size]; omega, fun k hk => Lib.bytesWorld_at_old w 5 a k hk⟩ (bytesOf_length a) (grownCap_ge w a.size 0 _) (by omega) (Nat.le_refl _) (by rw [Lib.bytesWorld_size]; omega) (bytes_holds w 5 a)

theorem RB.reads {w0 w : World} {g n cp : Nat} {l : List Int} (h : RB w0 g n cp w l) : ReadsInt w .u8 (some ⟨g, 0, none⟩) n l := by
  refine ⟨h.len, h.small, fun _ => ⟨_, rfl, fun j hj => ?_⟩⟩
  have h1 := (Hd.cell h.holds.2.2.2 j (by rw [h.len]; exact hj)).1
  rw [add_plain, h1]

/-- A word's letters in order. -/
def ordered (a : ByteArray) : ByteArray := strOfNums (sortB (bytesOf a))
def impl_sortedWord.f (a : ByteArray) : Option ByteArray := if a.size < 4611686018427387904 then some (ordered a) else none

set_option maxHeartbeats 2000000 in
set_option maxRecDepth 100000 in
theorem impl_sortedWord.calls (a : ByteArray) (r : ByteArray) (w : World) (h : impl_sortedWord.f a = some r) :
    Calls Try.prog 46 #[.string a] w fun e w' => e = .returned (.string r) ∧ Below w.heap.size w w' := by
  unfold impl_sortedWord.f at h
  by_cases ha : a.size < 4611686018427387904
  case neg => rw [if_neg ha] at h; cases h
  rw [if_pos ha] at h
  obtain rfl := Option.some.inj h
  have hcall := Aside0.mk (sort_b w w.heap.size a.size (grownCap w a.size 0 5) ha (bytesOf a) (Lib.bytesWorld w 5 a) (bytes_RB w a ha))
  have hstr := Aside0.mk (fun (W : World) (hW : RB w w.heap.size a.size (grownCap w a.size 0 5) W (sortB (bytesOf a))) => string_of_reads (src := 68) (dst := 9) (c := grownCap w a.size 0 5) Try.underlying68 Try.underlying5 Try.underlying9 hW.reads)
  have hconv := Lib.run_convert_string_bytes (P := Try.prog) w 9 68 5 a Try.underlying9 Try.underlying68 Try.underlying5
  clear h
  go_enter Try.func46, Try.ntmps46
  go_wp2_with (go_at_call 68; (with_reducible refine hcall.out.mono ?_); rintro e w1 ⟨rfl, hr⟩; have hs1 := hstr.out w1 hr)
  go_ret
  exact ⟨rfl, hr.below⟩

end Go.Proofs.Ytippkbjdifmdnaa.PF
