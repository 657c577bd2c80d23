/- A book, and its small methods. -/
import Derived.Test.YtfoginganpgmcaaGreatBook2
import Derived.Test.YtfoginganpgmcaaGreatAlike
set_option linter.unusedSimpArgs false
set_option linter.unusedVariables false
namespace Go.Proofs.YtfoginganpgmcaaGreat
open Go Go.Tw
set_option maxRecDepth 100000

/-- What a book has. -/
structure Bk where
  self : IK .u8
  n : IK .i64
  md : Nat
  mo : Nat
  mh : Nat
  docs : List (Ticket × DocP)
  owns : List (Key × Own)
  helds : List (Key × Held)
def Bk.L (B : Bk) (b : Nat) : List Asn := [pt b (bkO B.self B.n B.md B.mo B.mh), mapA B.md Ticket.v DocP.v B.docs, mapA B.mo Key.v Own.v B.owns, mapA B.mh Key.v Held.v B.helds]

theorem ownGet_c {c : Cx} {g : Heap} {w : World} {F : List Asn} {b : Nat} (B : Bk) (k : Key) (H : Holds c g w (B.L b ++ F)) :
    Calls Tryz.prog 38 #[.pointer (some ⟨b, 0, none⟩), .func (.func 39) #[] #[], k.v] w (Ret fun v w' => v = foundO (kget B.owns k) ∧ Holds c g w' (B.L b ++ F)) := by
  obtain ⟨es, clock, hrep, H2⟩ := Holds.mapA.1 (Holds.sel (L := B.L b) H [2, 0, 1, 3] 4 rfl rfl)
  refine (foundOwn_c (F := [mapA B.md Ticket.v DocP.v B.docs, mapA B.mh Key.v Held.v B.helds] ++ F) hrep k (Holds.sel (L := [_, _]) H2 [1, 0] 2 rfl rfl)).mono (Ret.mono ?_)
  rintro v w ⟨rfl, H⟩
  have H3 : Holds c g w (mapA B.mo Key.v Own.v B.owns :: _) := Holds.mapA.2 ⟨es, clock, hrep, Holds.sel (L := [_, _]) H [1, 0] 2 rfl rfl⟩
  exact ⟨rfl, Holds.sel (L := [mapA B.mo Key.v Own.v B.owns, pt b (bkO B.self B.n B.md B.mo B.mh), mapA B.md Ticket.v DocP.v B.docs, mapA B.mh Key.v Held.v B.helds]) H3 [1, 2, 0, 3] 4 rfl rfl⟩
theorem heldGet_c {c : Cx} {g : Heap} {w : World} {F : List Asn} {b : Nat} (B : Bk) (k : Key) (H : Holds c g w (B.L b ++ F)) :
    Calls Tryz.prog 59 #[.pointer (some ⟨b, 0, none⟩), .func (.func 60) #[] #[], k.v] w (Ret fun v w' => v = foundH (kget B.helds k) ∧ Holds c g w' (B.L b ++ F)) := by
  obtain ⟨es, clock, hrep, H2⟩ := Holds.mapA.1 (Holds.sel (L := B.L b) H [3, 0, 1, 2] 4 rfl rfl)
  refine (foundHeld_c (F := [mapA B.md Ticket.v DocP.v B.docs, mapA B.mo Key.v Own.v B.owns] ++ F) hrep k (Holds.sel (L := [_, _]) H2 [1, 0] 2 rfl rfl)).mono (Ret.mono ?_)
  rintro v w ⟨rfl, H⟩
  have H3 : Holds c g w (mapA B.mh Key.v Held.v B.helds :: _) := Holds.mapA.2 ⟨es, clock, hrep, Holds.sel (L := [_, _]) H [1, 0] 2 rfl rfl⟩
  exact ⟨rfl, Holds.sel (L := [mapA B.mh Key.v Held.v B.helds, pt b (bkO B.self B.n B.md B.mo B.mh), mapA B.md Ticket.v DocP.v B.docs, mapA B.mo Key.v Own.v B.owns]) H3 [1, 2, 3, 0] 4 rfl rfl⟩

-- << bSelf_c
theorem bSelf_c {c : Cx} {g : Heap} {w : World} {F : List Asn} {b : Nat} (B : Bk) (H : Holds c g w (B.L b ++ F)) :
    Calls Tryz.prog 50 #[.pointer (some ⟨b, 0, none⟩)] w (Ret fun v w' => v = B.self.v ∧ Holds c g w' (B.L b ++ F)) := by
  -- (*tarmac/book.Book).Self  (function 80; params ['37']; results tmp:2; ntmps 9)
  refine calls_of_wpF Tryz.func50 rfl Tryz.ntmps50 rfl ?_
  refine wpF_seq ?_
  refine wpF_region rfl ?_   -- R0
  refine wpO_val rfl (x_assignI rfl) ?_
  refine wpO_nil ?_
  refine wpF_seq ?_
  refine wpF_seq ?_
  refine wpF_region rfl ?_   -- R1
  refine wpO_val rfl (x_moveP rfl) ?_
  refine wpO_val rfl (x_eqlNil Tryz.underlying37 rfl rfl) ?_
  refine wpO_nil ?_
  refine wpF_false rfl ?_
  ·
    refine wpF_skip ?_
    refine wpF_seq ?_
    refine wpF_region rfl ?_   -- R3
    refine wpO_val rfl (x_moveP rfl) ?_
    refine wpO_val rfl (x_nilCheck rfl) ?_
    refine wpO_val rfl (x_fieldAddrN Tryz.underlying105 rfl Tryz.sizeOf5 rfl rfl) ?_
    refine wpO_val rfl (x_load0bI Tryz.isAgg5 rfl (H.getF 0 rfl) rfl) ?_
    refine wpO_val rfl (x_assignI rfl) ?_
    refine wpO_nil ?_
    refine wpF_ret ?_
    repeat (with_reducible first | refine thenF_r ?_ | refine inBlockF_r ?_)
    refine end_t rfl rfl ?_   -- tmp:2
    exact ⟨rfl, H.sel [0, 1, 2, 3] 4 rfl rfl⟩
-- >> bSelf_c
-- << bCarriers_c
theorem bCarriers_c {c : Cx} {g : Heap} {w : World} {F : List Asn} {b : Nat} (B : Bk) (H : Holds c g w (B.L b ++ F)) :
    Calls Tryz.prog 51 #[.pointer (some ⟨b, 0, none⟩)] w (Ret fun v w' => v = B.n.v ∧ Holds c g w' (B.L b ++ F)) := by
  -- (*tarmac/book.Book).Carriers  (function 81; params ['37']; results tmp:2; ntmps 9)
  refine calls_of_wpF Tryz.func51 rfl Tryz.ntmps51 rfl ?_
  refine wpF_seq ?_
  refine wpF_region rfl ?_   -- R0
  refine wpO_val rfl (x_assignI rfl) ?_
  refine wpO_nil ?_
  refine wpF_seq ?_
  refine wpF_seq ?_
  refine wpF_region rfl ?_   -- R1
  refine wpO_val rfl (x_moveP rfl) ?_
  refine wpO_val rfl (x_eqlNil Tryz.underlying37 rfl rfl) ?_
  refine wpO_nil ?_
  refine wpF_false rfl ?_
  ·
    refine wpF_skip ?_
    refine wpF_seq ?_
    refine wpF_region rfl ?_   -- R3
    refine wpO_val rfl (x_moveP rfl) ?_
    refine wpO_val rfl (x_nilCheck rfl) ?_
    refine wpO_val rfl (x_fieldAddrN Tryz.underlying105 rfl Tryz.sizeOf3 rfl rfl) ?_
    refine wpO_val rfl (x_load0bI Tryz.isAgg3 rfl (H.getF 0 rfl) rfl) ?_
    refine wpO_val rfl (x_assignI rfl) ?_
    refine wpO_nil ?_
    refine wpF_ret ?_
    repeat (with_reducible first | refine thenF_r ?_ | refine inBlockF_r ?_)
    refine end_t rfl rfl ?_   -- tmp:2
    exact ⟨rfl, H.sel [0, 1, 2, 3] 4 rfl rfl⟩
-- >> bCarriers_c
-- << bOwn_c
theorem bOwn_c {c : Cx} {g : Heap} {w : World} {F : List Asn} {b : Nat} (B : Bk) (k : Key) (H : Holds c g w (B.L b ++ F)) :
    Calls Tryz.prog 10 #[.pointer (some ⟨b, 0, none⟩), k.v] w (Ret fun v w' => v = foundO (kget B.owns k) ∧ Holds c g w' (B.L b ++ F)) := by
  -- (*tarmac/book.Book).Own  (function 17; params ['37', '27']; results cell:4 43 tmp:5; ntmps 11)
  refine calls_of_wpF Tryz.func10 rfl Tryz.ntmps10 rfl ?_
  refine wpF_seq ?_
  refine wpF_region rfl ?_   -- R0
  refine wpO_eff rfl (e_boxA H rfl fun b3 w H => ?_)
  refine wpO_eff rfl (e_alloc H Tryz.zeroValue43 fun b4 w H => ?_)
  refine wpO_val rfl (x_assignI rfl) ?_
  refine wpO_nil ?_
  refine wpF_seq ?_
  refine wpF_region rfl ?_   -- R1
  refine wpO_val rfl (x_moveP rfl) ?_
  refine wpO_val rfl (x_load1 Tryz.isAgg27 Tryz.sizeOf27 rfl (H.getF 4 rfl) rfl) ?_
  refine wpO_eff rfl (e_callF (vs := [.pointer (some ⟨b, 0, none⟩), .func (.func 39) #[] #[], k.v]) Tryz.call38 rfl ((ownGet_c B k H).mono (Ret.mono ?_)))
  rintro v8 w ⟨rfl, H'⟩
  replace H := H.re H' rfl
  refine wpO_val rfl (x_extractA rfl rfl) ?_
  refine wpO_val rfl (x_extractI rfl rfl) ?_
  refine wpO_eff0 rfl (e_storeAll H 5 rfl Tryz.sizeOf43 rfl rfl rfl rfl rfl fun w H => ?_)
  refine wpO_val rfl (x_assignI rfl) ?_
  refine wpO_nil ?_
  refine wpF_ret ?_
  repeat (with_reducible first | refine thenF_r ?_ | refine inBlockF_r ?_)
  refine end_ct rfl rfl rfl Tryz.isAgg43 Tryz.sizeOf43 (H.getF 5 rfl) rfl ?_   -- cell:4 43 tmp:5
  exact ⟨rfl, H.sel [0, 1, 2, 3] 6 rfl rfl⟩
-- >> bOwn_c
-- << bHeld_c
theorem bHeld_c {c : Cx} {g : Heap} {w : World} {F : List Asn} {b : Nat} (B : Bk) (k : Key) (H : Holds c g w (B.L b ++ F)) :
    Calls Tryz.prog 19 #[.pointer (some ⟨b, 0, none⟩), k.v] w (Ret fun v w' => v = foundH (kget B.helds k) ∧ Holds c g w' (B.L b ++ F)) := by
  -- (*tarmac/book.Book).Held  (function 26; params ['37', '27']; results cell:4 64 tmp:5; ntmps 11)
  refine calls_of_wpF Tryz.func19 rfl Tryz.ntmps19 rfl ?_
  refine wpF_seq ?_
  refine wpF_region rfl ?_   -- R0
  refine wpO_eff rfl (e_boxA H rfl fun b3 w H => ?_)
  refine wpO_eff rfl (e_alloc H Tryz.zeroValue64 fun b4 w H => ?_)
  refine wpO_val rfl (x_assignI rfl) ?_
  refine wpO_nil ?_
  refine wpF_seq ?_
  refine wpF_region rfl ?_   -- R1
  refine wpO_val rfl (x_moveP rfl) ?_
  refine wpO_val rfl (x_load1 Tryz.isAgg27 Tryz.sizeOf27 rfl (H.getF 4 rfl) rfl) ?_
  refine wpO_eff rfl (e_callF (vs := [.pointer (some ⟨b, 0, none⟩), .func (.func 60) #[] #[], k.v]) Tryz.call59 rfl ((heldGet_c B k H).mono (Ret.mono ?_)))
  rintro v8 w ⟨rfl, H'⟩
  replace H := H.re H' rfl
  refine wpO_val rfl (x_extractA rfl rfl) ?_
  refine wpO_val rfl (x_extractI rfl rfl) ?_
  refine wpO_eff0 rfl (e_storeAll H 5 rfl Tryz.sizeOf64 rfl rfl rfl rfl rfl fun w H => ?_)
  refine wpO_val rfl (x_assignI rfl) ?_
  refine wpO_nil ?_
  refine wpF_ret ?_
  repeat (with_reducible first | refine thenF_r ?_ | refine inBlockF_r ?_)
  refine end_ct rfl rfl rfl Tryz.isAgg64 Tryz.sizeOf64 (H.getF 5 rfl) rfl ?_   -- cell:4 64 tmp:5
  exact ⟨rfl, H.sel [0, 1, 2, 3] 6 rfl rfl⟩
-- >> bHeld_c
end Go.Proofs.YtfoginganpgmcaaGreat
