/- slices.Equal, ticket.Same, book.alike, book.copied. -/
import Derived.Test.YtfoginganpgmcaaGreatMake
set_option linter.unusedSimpArgs false
set_option linter.unusedVariables false
namespace Go.Tw
open Go
theorem e_storeV {P : Program} {f : Fr} {w : World} {d : Option Nat} {ty : TypeId} {pos : String} {af : Array Edge} {gd : Option (Nat × Bool)} {R : Value → World → Prop} {c : Cx} {g : Heap} {L F : List Asn} {T : TypeId} {x y : Operand} {b off n : Nat} {cs : Array Value} {E : TypeId} {v : Value} (cs' : Array Value) (H : Holds c g w (L ++ F)) (i : Nat) (hi : L[i]? = some (pt b (.cells cs E))) (hn : Sz P T n) (hx : ev f x = .pointer (some ⟨b, off, none⟩)) (hy : ev f y = v)
    (h1 : v.cells.size = n) (h2 : Nat.ble (off + n) cs.size = true) (h3 : v.cells.toList.all oneCell = true) (hcs : setMany cs off v.cells.toList = cs') (k : ∀ w', Holds c g w' (L.set i (pt b (.cells cs' E)) ++ F) → R undef w') :
    EffAt P ⟨d, .store T x y, ty, pos, af, gd⟩ f w R := e_store H i hi hn hx hy h1 h2 h3 fun w' H' => k w' (hcs ▸ H')
end Go.Tw
namespace Go.Proofs.YtfoginganpgmcaaGreat
open Go Go.Tw
set_option maxRecDepth 100000
theorem equalIn_str {P : Program} {T : TypeId} (d : Nat) (hT : P.underlying T = some .string) (a b : List UInt8) (w : World) : (Op.equalIn (d + 1) T (strV a) (strV b)).run P w = .ok (decide (a = b)) w := by
  have e : (({ data := a.toArray } : ByteArray) == { data := b.toArray }) = decide (a = b) := by
    show (a.toArray == b.toArray) = _
    rw [Bool.eq_iff_iff]
    simp
  simp [Op.equalIn, strV, run_und hT, e]
theorem eqInTax (d : Nat) (a b : Tax) (w : World) : (Op.equalIn (d + 2) 158 a.v b.v).run Tryz.prog w = .ok (decide (a = b)) w := by
  have e : d + 2 = (d + 1) + 1 := rfl
  rw [e]
  unfold Tax.v
  rw [run_equalIn_struct (P := Tryz.prog) w (d + 1) 158 _ _ (by simp [Program.fieldsOf]) (by simp)]
  simp [Program.fieldsOf, Op.eqFields, part, equalIn_int, equalIn_str]
  obtain ⟨a1, a2⟩ := a
  obtain ⟨b1, b2⟩ := b
  by_cases h1 : a1 = b1 <;> by_cases h2 : a2 = b2 <;> simp [h1, h2]
theorem eqTax : EqLaw Tryz.prog 158 Tax.v := fun a b w => eqInTax 9998 a b w
theorem take_next {α : Type} {xs ys : List α} {k : Nat} (h1 : k < xs.length) (h2 : k < ys.length) (h : xs.take k = ys.take k) (he : xs[k] = ys[k]) : xs.take (k + 1) = ys.take (k + 1) := by
  rw [List.take_succ_eq_append_getElem h1, List.take_succ_eq_append_getElem h2, h, he]
theorem ne_at {α : Type} {xs ys : List α} {k : Nat} (h1 : k < xs.length) (h2 : k < ys.length) (h : xs[k] ≠ ys[k]) : xs ≠ ys := fun e => h (by subst e; rfl)

-- << equalInt_c
theorem equalInt_c {c : Cx} {g : Heap} {w : World} {F : List Asn} {s s2 : Sl} {xs ys : List Int} (hs : SlR g encI 1 s xs) (hs2 : SlR g encI 1 s2 ys) (hl : xs.length ≤ 9223372036854775807) (H : Holds c g w F) :
    Calls Tryz.prog 94 #[s.v, s2.v] w (Ret fun v w' => v = .bool (decide (xs = ys)) ∧ Holds c g w' F) := by
  have H : Holds c g w ([] ++ F) := H
  have hlen := hs.len
  have hlen2 := hs2.len
  -- slices.Equal[[]int64,int64]  (function 148; params ['60', '60']; results tmp:4; ntmps 26)
  refine calls_of_wpF Tryz.func94 rfl Tryz.ntmps94 rfl ?_
  refine wpF_seq ?_
  refine wpF_region rfl ?_   -- R0
  refine wpO_val rfl (x_assignB rfl) ?_
  refine wpO_nil ?_
  refine wpF_seq ?_
  refine wpF_seq ?_
  refine wpF_region rfl ?_   -- R1
  refine wpO_val rfl (x_moveL rfl) ?_
  refine wpO_val rfl (x_lenSl Tryz.underlying60 rfl) ?_
  refine wpO_val rfl (x_moveL rfl) ?_
  refine wpO_val rfl (x_lenSl Tryz.underlying60 rfl) ?_
  refine wpO_val rfl (x_cmp rfl rfl rfl rfl) ?_
  refine wpO_nil ?_
  refine wpF_cond _ rfl (fun hc => ?_) (fun hc => ?_)   -- t10
  ·
    refine wpF_seq ?_
    refine wpF_region rfl ?_   -- R2
    refine wpO_val rfl (x_assignB rfl) ?_
    refine wpO_nil ?_
    refine wpF_ret ?_
    repeat (with_reducible first | refine thenF_r ?_ | refine inBlockF_r ?_)
    refine end_t rfl rfl ?_   -- tmp:4
    exact ⟨bq (decide_eq_false fun e => absurd (show (s.len : Int) = s2.len by rw [hlen, hlen2, e]) (by simpa using hc)), H⟩
  ·
    have hll : xs.length = ys.length := by have h : (s.len : Int) = s2.len := (by simpa using hc); omega
    refine wpF_skip ?_
    refine wpF_seq ?_
    refine wpF_seq ?_
    refine wpF_region rfl ?_   -- R3
    refine wpO_val rfl (x_moveL rfl) ?_
    refine wpO_val rfl (x_lenSl Tryz.underlying60 rfl) ?_
    refine wpO_val rfl (x_moveI rfl) ?_
    refine wpO_nil ?_
    refine wpF_block ?_   -- block 0
    refine wpF_loop (fun q f w => ∃ k f0, (k ≤ xs.length ∧ q = xs.length - k ∧ xs.take k = ys.take k) ∧ Holds c g w ([] ++ F) ∧ f = updL f0 [(0, s.v), (1, s2.v), (12, .int .i64 s.len), (13, .int .i64 (k : Nat))]) xs.length ?_ ?_
    · exact ⟨0, _, ⟨by omega, by omega, by simp⟩, H, updL_eta ⟨rfl, rfl, rfl, rfl, trivial⟩⟩
    · rintro n f w ⟨k, f0, ⟨hk, hn, hall⟩, H, rfl⟩
      refine wpF_seq ?_
      refine wpF_region rfl ?_   -- R4
      refine wpO_val rfl (x_cmp rfl rfl rfl rfl) ?_
      refine wpO_nil ?_
      refine wpF_seq ?_
      refine wpF_cond _ rfl (fun hc => ?_) (fun hc => ?_)   -- t14
      ·
        have hk' : k < xs.length := by rw [← hlen]; simpa using hc
        have hk2 : k < ys.length := by omega
        refine wpF_skip ?_
        refine wpF_seq ?_
        refine wpF_block ?_   -- block 1
        refine wpF_seq ?_
        refine wpF_region rfl ?_   -- R5
        refine wpO_val rfl (x_moveI rfl) ?_
        refine wpO_val rfl (x_assignI rfl) ?_
        refine wpO_nil ?_
        refine wpF_seq ?_
        refine wpF_drawC [0, 1, 2, 3, 4, 5, 6, 7, 8] [] [0, 0, 0, 0, 0, 0, 0, 0, 0] (fun _ _ => True) mixed (by kernel_rfl) rfl fun w hw => ?_   -- R6 DRAWS []
        have H := H.to hw
        refine wpDC_e rfl rfl rfl rfl (x_moveL rfl) ?_
        refine wpDC_e rfl rfl rfl rfl (x_moveI rfl) ?_
        refine wpDC_e rfl rfl rfl rfl (x_indexEl hs Tryz.underlying60 Tryz.sizeOf2 rfl rfl (by omega) (by omega)) ?_
        refine wpDC_e rfl rfl rfl rfl (x_loadEl elint64 hs H rfl (List.getElem?_eq_getElem hk')) ?_
        refine wpDC_e rfl rfl rfl rfl (x_moveL rfl) ?_
        refine wpDC_e rfl rfl rfl rfl (x_moveI rfl) ?_
        refine wpDC_e rfl rfl rfl rfl (x_indexEl hs2 Tryz.underlying60 Tryz.sizeOf2 rfl rfl (by omega) (by omega)) ?_
        refine wpDC_e rfl rfl rfl rfl (x_loadEl elint64 hs2 H rfl (List.getElem?_eq_getElem hk2)) ?_
        refine wpDC_e rfl rfl rfl rfl (x_cmp rfl rfl rfl rfl) ?_
        refine wpDC_nil ?_
        refine wpF_cond _ rfl (fun hc => ?_) (fun hc => ?_)   -- t24
        ·
          refine wpF_seq ?_
          refine wpF_region rfl ?_   -- R7
          refine wpO_val rfl (x_assignB rfl) ?_
          refine wpO_nil ?_
          refine wpF_ret ?_
          repeat (with_reducible first | refine thenF_r ?_ | refine inBlockF_r ?_)
          refine end_t rfl rfl ?_   -- tmp:4
          exact ⟨bq (decide_eq_false (ne_at hk' hk2 (by simpa using hc))), H⟩
        ·
          refine wpF_skip ?_
          refine wpF_region rfl ?_   -- R8
          refine wpO_val rfl (x_arith rfl rfl (fun _ => rfl) rfl) ?_
          refine wpO_val rfl (x_moveI rfl) ?_
          refine wpO_nil ?_
          refine ⟨xs.length - (k + 1), by omega, k + 1, _, ⟨by omega, rfl, take_next hk' hk2 hall (by simpa using hc)⟩, H, updL_eta ⟨rfl, rfl, rfl, vi64 (w64 (by omega) (by omega)), trivial⟩⟩
      ·
        refine wpF_exit ?_   -- exit 0
        refine wpF_seq ?_
        refine wpF_region rfl ?_   -- R9
        refine wpO_val rfl (x_assignB rfl) ?_
        refine wpO_nil ?_
        refine wpF_ret ?_
        repeat (with_reducible first | refine thenF_r ?_ | refine inBlockF_r ?_)
        refine end_t rfl rfl ?_   -- tmp:4
        have hk2 : ¬ (k : Int) < xs.length := by rw [← hlen]; simpa using hc
        rw [List.take_of_length_le (by omega), List.take_of_length_le (by omega)] at hall
        exact ⟨bq (decide_eq_true hall), H⟩
-- >> equalInt_c
-- << equalLeg_c
theorem equalLeg_c {c : Cx} {g : Heap} {w : World} {F : List Asn} {s s2 : Sl} {xs ys : List Leg} (hs : SlR g Leg.v 3 s xs) (hs2 : SlR g Leg.v 3 s2 ys) (hl : xs.length ≤ 9223372036854775807) (H : Holds c g w F) :
    Calls Tryz.prog 108 #[s.v, s2.v] w (Ret fun v w' => v = .bool (decide (xs = ys)) ∧ Holds c g w' F) := by
  have H : Holds c g w ([] ++ F) := H
  have hlen := hs.len
  have hlen2 := hs2.len
  -- slices.Equal[[]tarmac/api.Leg,tarmac/api.Leg]  (function 192; params ['56', '56']; results tmp:4; ntmps 26)
  refine calls_of_wpF Tryz.func108 rfl Tryz.ntmps108 rfl ?_
  refine wpF_seq ?_
  refine wpF_region rfl ?_   -- R0
  refine wpO_val rfl (x_assignB rfl) ?_
  refine wpO_nil ?_
  refine wpF_seq ?_
  refine wpF_seq ?_
  refine wpF_region rfl ?_   -- R1
  refine wpO_val rfl (x_moveL rfl) ?_
  refine wpO_val rfl (x_lenSl Tryz.underlying56 rfl) ?_
  refine wpO_val rfl (x_moveL rfl) ?_
  refine wpO_val rfl (x_lenSl Tryz.underlying56 rfl) ?_
  refine wpO_val rfl (x_cmp rfl rfl rfl rfl) ?_
  refine wpO_nil ?_
  refine wpF_cond _ rfl (fun hc => ?_) (fun hc => ?_)   -- t10
  ·
    refine wpF_seq ?_
    refine wpF_region rfl ?_   -- R2
    refine wpO_val rfl (x_assignB rfl) ?_
    refine wpO_nil ?_
    refine wpF_ret ?_
    repeat (with_reducible first | refine thenF_r ?_ | refine inBlockF_r ?_)
    refine end_t rfl rfl ?_   -- tmp:4
    exact ⟨bq (decide_eq_false fun e => absurd (show (s.len : Int) = s2.len by rw [hlen, hlen2, e]) (by simpa using hc)), H⟩
  ·
    have hll : xs.length = ys.length := by have h : (s.len : Int) = s2.len := (by simpa using hc); omega
    refine wpF_skip ?_
    refine wpF_seq ?_
    refine wpF_seq ?_
    refine wpF_region rfl ?_   -- R3
    refine wpO_val rfl (x_moveL rfl) ?_
    refine wpO_val rfl (x_lenSl Tryz.underlying56 rfl) ?_
    refine wpO_val rfl (x_moveI rfl) ?_
    refine wpO_nil ?_
    refine wpF_block ?_   -- block 0
    refine wpF_loop (fun q f w => ∃ k f0, (k ≤ xs.length ∧ q = xs.length - k ∧ xs.take k = ys.take k) ∧ Holds c g w ([] ++ F) ∧ f = updL f0 [(0, s.v), (1, s2.v), (12, .int .i64 s.len), (13, .int .i64 (k : Nat))]) xs.length ?_ ?_
    · exact ⟨0, _, ⟨by omega, by omega, by simp⟩, H, updL_eta ⟨rfl, rfl, rfl, rfl, trivial⟩⟩
    · rintro n f w ⟨k, f0, ⟨hk, hn, hall⟩, H, rfl⟩
      refine wpF_seq ?_
      refine wpF_region rfl ?_   -- R4
      refine wpO_val rfl (x_cmp rfl rfl rfl rfl) ?_
      refine wpO_nil ?_
      refine wpF_seq ?_
      refine wpF_cond _ rfl (fun hc => ?_) (fun hc => ?_)   -- t14
      ·
        have hk' : k < xs.length := by rw [← hlen]; simpa using hc
        have hk2 : k < ys.length := by omega
        refine wpF_skip ?_
        refine wpF_seq ?_
        refine wpF_block ?_   -- block 1
        refine wpF_seq ?_
        refine wpF_region rfl ?_   -- R5
        refine wpO_val rfl (x_moveI rfl) ?_
        refine wpO_val rfl (x_assignI rfl) ?_
        refine wpO_nil ?_
        refine wpF_seq ?_
        refine wpF_drawC [0, 1, 2, 3, 4, 5, 6, 7, 8] [] [0, 0, 0, 0, 0, 0, 0, 0, 0] (fun _ _ => True) mixed (by kernel_rfl) rfl fun w hw => ?_   -- R6 DRAWS []
        have H := H.to hw
        refine wpDC_e rfl rfl rfl rfl (x_moveL rfl) ?_
        refine wpDC_e rfl rfl rfl rfl (x_moveI rfl) ?_
        refine wpDC_e rfl rfl rfl rfl (x_indexEl hs Tryz.underlying56 Tryz.sizeOf31 rfl rfl (by omega) (by omega)) ?_
        refine wpDC_e rfl rfl rfl rfl (x_loadEl elLeg hs H rfl (List.getElem?_eq_getElem hk')) ?_
        refine wpDC_e rfl rfl rfl rfl (x_moveL rfl) ?_
        refine wpDC_e rfl rfl rfl rfl (x_moveI rfl) ?_
        refine wpDC_e rfl rfl rfl rfl (x_indexEl hs2 Tryz.underlying56 Tryz.sizeOf31 rfl rfl (by omega) (by omega)) ?_
        refine wpDC_e rfl rfl rfl rfl (x_loadEl elLeg hs2 H rfl (List.getElem?_eq_getElem hk2)) ?_
        refine wpDC_e rfl rfl rfl rfl (x_neqE eqLeg (by kernel_rfl) rfl rfl rfl rfl) ?_
        refine wpDC_nil ?_
        refine wpF_cond _ rfl (fun hc => ?_) (fun hc => ?_)   -- t24
        ·
          refine wpF_seq ?_
          refine wpF_region rfl ?_   -- R7
          refine wpO_val rfl (x_assignB rfl) ?_
          refine wpO_nil ?_
          refine wpF_ret ?_
          repeat (with_reducible first | refine thenF_r ?_ | refine inBlockF_r ?_)
          refine end_t rfl rfl ?_   -- tmp:4
          exact ⟨bq (decide_eq_false (ne_at hk' hk2 (by simpa using hc))), H⟩
        ·
          refine wpF_skip ?_
          refine wpF_region rfl ?_   -- R8
          refine wpO_val rfl (x_arith rfl rfl (fun _ => rfl) rfl) ?_
          refine wpO_val rfl (x_moveI rfl) ?_
          refine wpO_nil ?_
          refine ⟨xs.length - (k + 1), by omega, k + 1, _, ⟨by omega, rfl, take_next hk' hk2 hall (by simpa using hc)⟩, H, updL_eta ⟨rfl, rfl, rfl, vi64 (w64 (by omega) (by omega)), trivial⟩⟩
      ·
        refine wpF_exit ?_   -- exit 0
        refine wpF_seq ?_
        refine wpF_region rfl ?_   -- R9
        refine wpO_val rfl (x_assignB rfl) ?_
        refine wpO_nil ?_
        refine wpF_ret ?_
        repeat (with_reducible first | refine thenF_r ?_ | refine inBlockF_r ?_)
        refine end_t rfl rfl ?_   -- tmp:4
        have hk2 : ¬ (k : Int) < xs.length := by rw [← hlen]; simpa using hc
        rw [List.take_of_length_le (by omega), List.take_of_length_le (by omega)] at hall
        exact ⟨bq (decide_eq_true hall), H⟩
-- >> equalLeg_c
-- << equalTax_c
theorem equalTax_c {c : Cx} {g : Heap} {w : World} {F : List Asn} {s s2 : Sl} {xs ys : List Tax} (hs : SlR g Tax.v 2 s xs) (hs2 : SlR g Tax.v 2 s2 ys) (hl : xs.length ≤ 9223372036854775807) (H : Holds c g w F) :
    Calls Tryz.prog 109 #[s.v, s2.v] w (Ret fun v w' => v = .bool (decide (xs = ys)) ∧ Holds c g w' F) := by
  have H : Holds c g w ([] ++ F) := H
  have hlen := hs.len
  have hlen2 := hs2.len
  -- slices.Equal[[]tarmac/api.Tax,tarmac/api.Tax]  (function 193; params ['57', '57']; results tmp:4; ntmps 26)
  refine calls_of_wpF Tryz.func109 rfl Tryz.ntmps109 rfl ?_
  refine wpF_seq ?_
  refine wpF_region rfl ?_   -- R0
  refine wpO_val rfl (x_assignB rfl) ?_
  refine wpO_nil ?_
  refine wpF_seq ?_
  refine wpF_seq ?_
  refine wpF_region rfl ?_   -- R1
  refine wpO_val rfl (x_moveL rfl) ?_
  refine wpO_val rfl (x_lenSl Tryz.underlying57 rfl) ?_
  refine wpO_val rfl (x_moveL rfl) ?_
  refine wpO_val rfl (x_lenSl Tryz.underlying57 rfl) ?_
  refine wpO_val rfl (x_cmp rfl rfl rfl rfl) ?_
  refine wpO_nil ?_
  refine wpF_cond _ rfl (fun hc => ?_) (fun hc => ?_)   -- t10
  ·
    refine wpF_seq ?_
    refine wpF_region rfl ?_   -- R2
    refine wpO_val rfl (x_assignB rfl) ?_
    refine wpO_nil ?_
    refine wpF_ret ?_
    repeat (with_reducible first | refine thenF_r ?_ | refine inBlockF_r ?_)
    refine end_t rfl rfl ?_   -- tmp:4
    exact ⟨bq (decide_eq_false fun e => absurd (show (s.len : Int) = s2.len by rw [hlen, hlen2, e]) (by simpa using hc)), H⟩
  ·
    have hll : xs.length = ys.length := by have h : (s.len : Int) = s2.len := (by simpa using hc); omega
    refine wpF_skip ?_
    refine wpF_seq ?_
    refine wpF_seq ?_
    refine wpF_region rfl ?_   -- R3
    refine wpO_val rfl (x_moveL rfl) ?_
    refine wpO_val rfl (x_lenSl Tryz.underlying57 rfl) ?_
    refine wpO_val rfl (x_moveI rfl) ?_
    refine wpO_nil ?_
    refine wpF_block ?_   -- block 0
    refine wpF_loop (fun q f w => ∃ k f0, (k ≤ xs.length ∧ q = xs.length - k ∧ xs.take k = ys.take k) ∧ Holds c g w ([] ++ F) ∧ f = updL f0 [(0, s.v), (1, s2.v), (12, .int .i64 s.len), (13, .int .i64 (k : Nat))]) xs.length ?_ ?_
    · exact ⟨0, _, ⟨by omega, by omega, by simp⟩, H, updL_eta ⟨rfl, rfl, rfl, rfl, trivial⟩⟩
    · rintro n f w ⟨k, f0, ⟨hk, hn, hall⟩, H, rfl⟩
      refine wpF_seq ?_
      refine wpF_region rfl ?_   -- R4
      refine wpO_val rfl (x_cmp rfl rfl rfl rfl) ?_
      refine wpO_nil ?_
      refine wpF_seq ?_
      refine wpF_cond _ rfl (fun hc => ?_) (fun hc => ?_)   -- t14
      ·
        have hk' : k < xs.length := by rw [← hlen]; simpa using hc
        have hk2 : k < ys.length := by omega
        refine wpF_skip ?_
        refine wpF_seq ?_
        refine wpF_block ?_   -- block 1
        refine wpF_seq ?_
        refine wpF_region rfl ?_   -- R5
        refine wpO_val rfl (x_moveI rfl) ?_
        refine wpO_val rfl (x_assignI rfl) ?_
        refine wpO_nil ?_
        refine wpF_seq ?_
        refine wpF_drawC [0, 1, 2, 3, 4, 5, 6, 7, 8] [] [0, 0, 0, 0, 0, 0, 0, 0, 0] (fun _ _ => True) mixed (by kernel_rfl) rfl fun w hw => ?_   -- R6 DRAWS []
        have H := H.to hw
        refine wpDC_e rfl rfl rfl rfl (x_moveL rfl) ?_
        refine wpDC_e rfl rfl rfl rfl (x_moveI rfl) ?_
        refine wpDC_e rfl rfl rfl rfl (x_indexEl hs Tryz.underlying57 Tryz.sizeOf158 rfl rfl (by omega) (by omega)) ?_
        refine wpDC_e rfl rfl rfl rfl (x_loadEl elTax hs H rfl (List.getElem?_eq_getElem hk')) ?_
        refine wpDC_e rfl rfl rfl rfl (x_moveL rfl) ?_
        refine wpDC_e rfl rfl rfl rfl (x_moveI rfl) ?_
        refine wpDC_e rfl rfl rfl rfl (x_indexEl hs2 Tryz.underlying57 Tryz.sizeOf158 rfl rfl (by omega) (by omega)) ?_
        refine wpDC_e rfl rfl rfl rfl (x_loadEl elTax hs2 H rfl (List.getElem?_eq_getElem hk2)) ?_
        refine wpDC_e rfl rfl rfl rfl (x_neqE eqTax (by kernel_rfl) rfl rfl rfl rfl) ?_
        refine wpDC_nil ?_
        refine wpF_cond _ rfl (fun hc => ?_) (fun hc => ?_)   -- t24
        ·
          refine wpF_seq ?_
          refine wpF_region rfl ?_   -- R7
          refine wpO_val rfl (x_assignB rfl) ?_
          refine wpO_nil ?_
          refine wpF_ret ?_
          repeat (with_reducible first | refine thenF_r ?_ | refine inBlockF_r ?_)
          refine end_t rfl rfl ?_   -- tmp:4
          exact ⟨bq (decide_eq_false (ne_at hk' hk2 (by simpa using hc))), H⟩
        ·
          refine wpF_skip ?_
          refine wpF_region rfl ?_   -- R8
          refine wpO_val rfl (x_arith rfl rfl (fun _ => rfl) rfl) ?_
          refine wpO_val rfl (x_moveI rfl) ?_
          refine wpO_nil ?_
          refine ⟨xs.length - (k + 1), by omega, k + 1, _, ⟨by omega, rfl, take_next hk' hk2 hall (by simpa using hc)⟩, H, updL_eta ⟨rfl, rfl, rfl, vi64 (w64 (by omega) (by omega)), trivial⟩⟩
      ·
        refine wpF_exit ?_   -- exit 0
        refine wpF_seq ?_
        refine wpF_region rfl ?_   -- R9
        refine wpO_val rfl (x_assignB rfl) ?_
        refine wpO_nil ?_
        refine wpF_ret ?_
        repeat (with_reducible first | refine thenF_r ?_ | refine inBlockF_r ?_)
        refine end_t rfl rfl ?_   -- tmp:4
        have hk2 : ¬ (k : Int) < xs.length := by rw [← hlen]; simpa using hc
        rw [List.take_of_length_le (by omega), List.take_of_length_le (by omega)] at hall
        exact ⟨bq (decide_eq_true hall), H⟩
-- >> equalTax_c
/-- Are two sales alike? -/
def sameSale (s s2 : SaleP) (legs legs2 : List Leg) (taxes taxes2 : List Tax) : Bool :=
  decide (s.name = s2.name) && decide (s.fare = s2.fare) && decide (s.pen = s2.pen) && decide (legs = legs2) && decide (taxes = taxes2)
theorem strEq (a b : List UInt8) : (ByteArray.toList ⟨a.toArray⟩ == ByteArray.toList ⟨b.toArray⟩) = decide (a = b) := by
  rw [toList_mk, toList_mk, Bool.eq_iff_iff]; simp
theorem ikEq {k : IntKind} (a b : IK k) : (a.n == b.n) = decide (a = b) := by rw [Bool.eq_iff_iff]; simp [IK.n_inj]

-- << same_c
theorem same_c {c : Cx} {g : Heap} {w : World} {F : List Asn} (s s2 : SaleP) {legs legs2 : List Leg} {taxes taxes2 : List Tax} (hs : SaleR g s legs taxes) (hs2 : SaleR g s2 legs2 taxes2) (hl : legs.length ≤ 1000) (ht : taxes.length ≤ 1000) (H : Holds c g w F) :
    Calls Tryz.prog 93 #[s.v, s2.v] w (Ret fun v w' => v = .bool (sameSale s s2 legs legs2 taxes taxes2) ∧ Holds c g w' F) := by
  have H : Holds c g w ([] ++ F) := H
  -- tarmac/ticket.Same  (function 147; params ['59', '59']; results tmp:4; ntmps 38)
  refine calls_of_wpF Tryz.func93 rfl Tryz.ntmps93 rfl ?_
  refine wpF_seq ?_
  refine wpF_region rfl ?_   -- R0
  refine wpO_eff rfl (e_boxA H rfl fun b2 w H => ?_)
  refine wpO_eff rfl (e_boxA H rfl fun b3 w H => ?_)
  refine wpO_val rfl (x_assignB rfl) ?_
  refine wpO_nil ?_
  refine wpF_seq ?_
  refine wpF_region rfl ?_   -- R1
  refine wpO_val rfl (x_fieldAddrN Tryz.underlying59 rfl Tryz.sizeOf9 rfl rfl) ?_
  refine wpO_val rfl (x_load0bS Tryz.isAgg9 rfl (H.getF 0 rfl) rfl) ?_
  refine wpO_val rfl (x_fieldAddrN Tryz.underlying59 rfl Tryz.sizeOf9 rfl rfl) ?_
  refine wpO_val rfl (x_load0bS Tryz.isAgg9 rfl (H.getF 1 rfl) rfl) ?_
  refine wpO_val rfl (x_eqlS rfl rfl) ?_
  refine wpO_val rfl (x_moveB rfl) ?_
  refine wpO_split 10 rfl (fun hb10 => ?_) (fun hb10 => ?_)
  ·
    rw [strEq] at hb10
    refine wpO_val rfl (x_fieldAddrN Tryz.underlying59 rfl Tryz.sizeOf2 rfl rfl) ?_
    refine wpO_val rfl (x_load0bI Tryz.isAgg2 rfl (H.getF 0 rfl) rfl) ?_
    refine wpO_val rfl (x_fieldAddrN Tryz.underlying59 rfl Tryz.sizeOf2 rfl rfl) ?_
    refine wpO_val rfl (x_load0bI Tryz.isAgg2 rfl (H.getF 1 rfl) rfl) ?_
    refine wpO_val rfl (x_cmp rfl rfl rfl rfl) ?_
    refine wpO_val rfl (x_pickB rfl rfl) ?_
    refine wpO_val rfl (x_moveB rfl) ?_
    refine wpO_split 17 rfl (fun hb17 => ?_) (fun hb17 => ?_)
    ·
      rw [ikEq] at hb17
      refine wpO_val rfl (x_fieldAddrN Tryz.underlying59 rfl Tryz.sizeOf2 rfl rfl) ?_
      refine wpO_val rfl (x_load0bI Tryz.isAgg2 rfl (H.getF 0 rfl) rfl) ?_
      refine wpO_val rfl (x_fieldAddrN Tryz.underlying59 rfl Tryz.sizeOf2 rfl rfl) ?_
      refine wpO_val rfl (x_load0bI Tryz.isAgg2 rfl (H.getF 1 rfl) rfl) ?_
      refine wpO_val rfl (x_cmp rfl rfl rfl rfl) ?_
      refine wpO_val rfl (x_pickB rfl rfl) ?_
      refine wpO_val rfl (x_moveB rfl) ?_
      refine wpO_split 24 rfl (fun hb24 => ?_) (fun hb24 => ?_)
      ·
        rw [ikEq] at hb24
        refine wpO_val rfl (x_fieldAddrN Tryz.underlying59 rfl Tryz.sizeOf56 rfl rfl) ?_
        refine wpO_val rfl (x_load0bL Tryz.isAgg56 rfl (H.getF 0 rfl) rfl) ?_
        refine wpO_val rfl (x_fieldAddrN Tryz.underlying59 rfl Tryz.sizeOf56 rfl rfl) ?_
        refine wpO_val rfl (x_load0bL Tryz.isAgg56 rfl (H.getF 1 rfl) rfl) ?_
        refine wpO_eff rfl (e_callF (vs := [s.legs.v, s2.legs.v]) Tryz.call108 rfl ((equalLeg_c hs.l hs2.l (by omega) H).mono (Ret.mono ?_)))
        rintro v29 w ⟨rfl, H'⟩
        replace H := H.re H' rfl
        refine wpO_val rfl (x_pickB rfl rfl) ?_
        refine wpO_val rfl (x_moveB rfl) ?_
        refine wpO_split 31 rfl (fun hb31 => ?_) (fun hb31 => ?_)
        ·
          refine wpO_val rfl (x_fieldAddrN Tryz.underlying59 rfl Tryz.sizeOf57 rfl rfl) ?_
          refine wpO_val rfl (x_load0bL Tryz.isAgg57 rfl (H.getF 0 rfl) rfl) ?_
          refine wpO_val rfl (x_fieldAddrN Tryz.underlying59 rfl Tryz.sizeOf57 rfl rfl) ?_
          refine wpO_val rfl (x_load0bL Tryz.isAgg57 rfl (H.getF 1 rfl) rfl) ?_
          refine wpO_eff rfl (e_callF (vs := [s.taxes.v, s2.taxes.v]) Tryz.call109 rfl ((equalTax_c hs.t hs2.t (by omega) H).mono (Ret.mono ?_)))
          rintro v36 w ⟨rfl, H'⟩
          replace H := H.re H' rfl
          refine wpO_val rfl (x_pickB rfl rfl) ?_
          refine wpO_val rfl (x_assignB rfl) ?_
          refine wpO_nil ?_
          refine wpF_ret ?_
          repeat (with_reducible first | refine thenF_r ?_ | refine inBlockF_r ?_)
          refine end_t rfl rfl ?_   -- tmp:4
          exact ⟨bq (show sameSale s s2 legs legs2 taxes taxes2 = decide (taxes = taxes2) by unfold sameSale; rw [hb10, hb17, hb24, hb31]; simp), H.sel [] 2 rfl rfl⟩
        ·
          refine wpO_not rfl ?_
          refine wpO_not rfl ?_
          refine wpO_not rfl ?_
          refine wpO_not rfl ?_
          refine wpO_not rfl ?_
          refine wpO_val rfl (x_pickB rfl rfl) ?_
          refine wpO_val rfl (x_assignB rfl) ?_
          refine wpO_nil ?_
          refine wpF_ret ?_
          repeat (with_reducible first | refine thenF_r ?_ | refine inBlockF_r ?_)
          refine end_t rfl rfl ?_   -- tmp:4
          exact ⟨bq (show sameSale s s2 legs legs2 taxes taxes2 = false by unfold sameSale; rw [hb31]; simp), H.sel [] 2 rfl rfl⟩
      ·
        refine wpO_not rfl ?_
        refine wpO_not rfl ?_
        refine wpO_not rfl ?_
        refine wpO_not rfl ?_
        refine wpO_not rfl ?_
        refine wpO_val rfl (x_pickB rfl rfl) ?_
        refine wpO_val rfl (x_moveB rfl) ?_
        refine wpO_not rfl ?_
        refine wpO_not rfl ?_
        refine wpO_not rfl ?_
        refine wpO_not rfl ?_
        refine wpO_not rfl ?_
        refine wpO_val rfl (x_pickB rfl rfl) ?_
        refine wpO_val rfl (x_assignB rfl) ?_
        refine wpO_nil ?_
        refine wpF_ret ?_
        repeat (with_reducible first | refine thenF_r ?_ | refine inBlockF_r ?_)
        refine end_t rfl rfl ?_   -- tmp:4
        rw [ikEq] at hb24
        exact ⟨bq (show sameSale s s2 legs legs2 taxes taxes2 = false by unfold sameSale; rw [hb24]; simp), H.sel [] 2 rfl rfl⟩
    ·
      refine wpO_not rfl ?_
      refine wpO_not rfl ?_
      refine wpO_not rfl ?_
      refine wpO_not rfl ?_
      refine wpO_not rfl ?_
      refine wpO_val rfl (x_pickB rfl rfl) ?_
      refine wpO_val rfl (x_moveB rfl) ?_
      refine wpO_not rfl ?_
      refine wpO_not rfl ?_
      refine wpO_not rfl ?_
      refine wpO_not rfl ?_
      refine wpO_not rfl ?_
      refine wpO_val rfl (x_pickB rfl rfl) ?_
      refine wpO_val rfl (x_moveB rfl) ?_
      refine wpO_not rfl ?_
      refine wpO_not rfl ?_
      refine wpO_not rfl ?_
      refine wpO_not rfl ?_
      refine wpO_not rfl ?_
      refine wpO_val rfl (x_pickB rfl rfl) ?_
      refine wpO_val rfl (x_assignB rfl) ?_
      refine wpO_nil ?_
      refine wpF_ret ?_
      repeat (with_reducible first | refine thenF_r ?_ | refine inBlockF_r ?_)
      refine end_t rfl rfl ?_   -- tmp:4
      rw [ikEq] at hb17
      exact ⟨bq (show sameSale s s2 legs legs2 taxes taxes2 = false by unfold sameSale; rw [hb17]; simp), H.sel [] 2 rfl rfl⟩
  ·
    refine wpO_not rfl ?_
    refine wpO_not rfl ?_
    refine wpO_not rfl ?_
    refine wpO_not rfl ?_
    refine wpO_not rfl ?_
    refine wpO_val rfl (x_pickB rfl rfl) ?_
    refine wpO_val rfl (x_moveB rfl) ?_
    refine wpO_not rfl ?_
    refine wpO_not rfl ?_
    refine wpO_not rfl ?_
    refine wpO_not rfl ?_
    refine wpO_not rfl ?_
    refine wpO_val rfl (x_pickB rfl rfl) ?_
    refine wpO_val rfl (x_moveB rfl) ?_
    refine wpO_not rfl ?_
    refine wpO_not rfl ?_
    refine wpO_not rfl ?_
    refine wpO_not rfl ?_
    refine wpO_not rfl ?_
    refine wpO_val rfl (x_pickB rfl rfl) ?_
    refine wpO_val rfl (x_moveB rfl) ?_
    refine wpO_not rfl ?_
    refine wpO_not rfl ?_
    refine wpO_not rfl ?_
    refine wpO_not rfl ?_
    refine wpO_not rfl ?_
    refine wpO_val rfl (x_pickB rfl rfl) ?_
    refine wpO_val rfl (x_assignB rfl) ?_
    refine wpO_nil ?_
    refine wpF_ret ?_
    repeat (with_reducible first | refine thenF_r ?_ | refine inBlockF_r ?_)
    refine end_t rfl rfl ?_   -- tmp:4
    rw [strEq] at hb10
    exact ⟨bq (show sameSale s s2 legs legs2 taxes taxes2 = false by unfold sameSale; rw [hb10]; simp), H.sel [] 2 rfl rfl⟩
-- >> same_c
-- << copied_c
theorem copied_c {c : Cx} {g : Heap} {w : World} {F : List Asn} (d : DocP) {legs : List Leg} {taxes : List Tax} {vals : List Int} (hd : DocR g d legs taxes vals) (hl : legs.length ≤ 1000) (ht : taxes.length ≤ 1000) (hv : vals.length ≤ 1000) (H : Holds c g w F) :
    Calls Tryz.prog 37 #[d.v] w (Ret fun v w' => ∃ (sl st sv : Sl) (g' : Heap), v = DocP.v { d with s := { d.s with legs := sl, taxes := st }, vals := sv } ∧ Le g g' ∧ DocR g' { d with s := { d.s with legs := sl, taxes := st }, vals := sv } legs taxes vals ∧ Holds c g' w' F) := by
  have H : Holds c g w ([] ++ F) := H
  -- tarmac/book.copied  (function 67; params ['62']; results cell:2 62; ntmps 20)
  refine calls_of_wpF Tryz.func37 rfl Tryz.ntmps37 rfl ?_
  refine wpF_seq ?_
  refine wpF_region rfl ?_   -- R0
  refine wpO_eff rfl (e_boxA H rfl fun b1 w H => ?_)
  refine wpO_eff rfl (e_alloc H Tryz.zeroValue62 fun b2 w H => ?_)
  refine wpO_nil ?_
  refine wpF_seq ?_
  refine wpF_drawC [0, 1, 2, 4, 5, 6, 8, 9, 3, 11, 12, 7, 10, 13, 14, 15, 16, 17, 18] [3, 7, 10, 13, 16, 18] [0, 0, 0, 6, 1, 1, 1, 6, 2, 2, 6, 3, 3, 6, 4, 4, 6, 5, 6] (RH 2 c [pt b1 (.cells d.v.cells 62), pt b2 (.cells DocP.zero.v.cells 62)]) mixed (by kernel_rfl) rfl fun w hw => ?_
  have H := H.to hw
  have H0 := H.has
  refine wpDC_e rfl rfl rfl rfl (x_fieldAddrN Tryz.underlying62 rfl Tryz.sizeOf59 rfl rfl) ?_
  refine wpDC_e rfl rfl rfl rfl (x_fieldAddrN Tryz.underlying59 rfl Tryz.sizeOf56 rfl rfl) ?_
  refine wpDC_e rfl rfl rfl rfl (x_load0bL Tryz.isAgg56 rfl (H.getF 0 rfl) rfl) ?_
  refine wpDC_q rfl rfl rfl (fun w => (x_fieldAddrN Tryz.underlying62 rfl Tryz.sizeOf59 rfl rfl)) ?_
  refine wpDC_q rfl rfl rfl (fun w => (x_fieldAddrN Tryz.underlying59 rfl Tryz.sizeOf57 rfl rfl)) ?_
  refine wpDC_h rfl rfl rfl rfl rfl H0 (fun w HR => (x_load0bL Tryz.isAgg57 rfl (HR.get 0 rfl) rfl)) ?_
  refine wpDC_q rfl rfl rfl (fun w => (x_fieldAddrN Tryz.underlying62 rfl Tryz.sizeOf60 rfl rfl)) ?_
  refine wpDC_h rfl rfl rfl rfl rfl H0 (fun w HR => (x_load0bL Tryz.isAgg60 rfl (HR.get 0 rfl) rfl)) ?_
  refine wpDC_eff rfl rfl rfl (e_callF (vs := [d.s.legs.v]) Tryz.call85 rfl ((cloneLeg_c hd.s.l (by omega) H).mono (Ret.mono ?_)))
  rintro v6 w ⟨sl, g1, rfl, hle1, hr1, H'⟩
  replace H := H.re H' rfl
  refine ⟨fun _ => H.has, ?_⟩
  refine wpDC_q rfl rfl rfl (fun w => (x_fieldAddrN Tryz.underlying62 rfl Tryz.sizeOf59 rfl rfl)) ?_
  refine wpDC_q rfl rfl rfl (fun w => (x_fieldAddrN Tryz.underlying59 rfl Tryz.sizeOf56 rfl rfl)) ?_
  refine wpDC_eff rfl rfl rfl (e_callF (vs := [d.s.taxes.v]) Tryz.call86 rfl ((cloneTax_c (hd.s.t.mono hle1) (by omega) H).mono (Ret.mono ?_)))
  rintro v10 w ⟨st, g2, rfl, hle2, hr2, H'⟩
  replace H := H.re H' rfl
  refine ⟨fun _ => H.has, ?_⟩
  refine wpDC_eff rfl rfl rfl (e_callF (vs := [d.vals.v]) Tryz.call87 rfl ((cloneInt_c (hd.v.mono (hle1.trans hle2)) (by omega) H).mono (Ret.mono ?_)))
  rintro v13 w ⟨sv, g3, rfl, hle3, hr3, H'⟩
  replace H := H.re H' rfl
  refine ⟨fun h => absurd h (by decide), ?_⟩
  refine wpDC_eff0 rfl rfl rfl (e_storeV (v := sl.v) (DocP.v { d with s := { d.s with legs := sl } }).cells H 0 rfl Tryz.sizeOf56 rfl rfl rfl rfl rfl (by kernel_rfl) fun w H => ⟨fun h => absurd h (by decide), ?_⟩)
  refine wpDC_q rfl rfl rfl (fun w => (x_fieldAddrN Tryz.underlying62 rfl Tryz.sizeOf59 rfl rfl)) ?_
  refine wpDC_q rfl rfl rfl (fun w => (x_fieldAddrN Tryz.underlying59 rfl Tryz.sizeOf57 rfl rfl)) ?_
  refine wpDC_eff0 rfl rfl rfl (e_storeV (v := st.v) (DocP.v { d with s := { d.s with legs := sl, taxes := st } }).cells H 0 rfl Tryz.sizeOf57 rfl rfl rfl rfl rfl (by kernel_rfl) fun w H => ⟨fun h => absurd h (by decide), ?_⟩)
  refine wpDC_q rfl rfl rfl (fun w => (x_fieldAddrN Tryz.underlying62 rfl Tryz.sizeOf60 rfl rfl)) ?_
  refine wpDC_eff0 rfl rfl rfl (e_storeV (v := sv.v) (DocP.v { d with s := { d.s with legs := sl, taxes := st }, vals := sv }).cells H 0 rfl Tryz.sizeOf60 rfl rfl rfl rfl rfl (by kernel_rfl) fun w H => ⟨fun h => absurd h (by decide), ?_⟩)
  refine wpDC_nil ?_
  refine wpF_seq ?_
  refine wpF_region rfl ?_   -- R2
  refine wpO_val rfl (x_load1V (DocP.v { d with s := { d.s with legs := sl, taxes := st }, vals := sv }) Tryz.isAgg62 Tryz.sizeOf62 rfl (H.getF 0 rfl) rfl (by kernel_rfl)) ?_
  refine wpO_eff0 rfl (e_storeAll (v := (DocP.v { d with s := { d.s with legs := sl, taxes := st }, vals := sv })) H 1 rfl Tryz.sizeOf62 rfl rfl rfl rfl rfl fun w H => ?_)
  refine wpO_nil ?_
  refine wpF_ret ?_
  repeat (with_reducible first | refine thenF_r ?_ | refine inBlockF_r ?_)
  refine end_c rfl rfl Tryz.isAgg62 Tryz.sizeOf62 (H.getF 1 rfl) rfl ?_   -- cell:2 62
  exact ⟨sl, st, sv, g3, rfl, (hle1.trans hle2).trans hle3, ⟨⟨hr1.mono (hle2.trans hle3), hr2.mono hle3⟩, hr3⟩, H.sel [] 2 rfl rfl⟩
-- >> copied_c
end Go.Proofs.YtfoginganpgmcaaGreat
