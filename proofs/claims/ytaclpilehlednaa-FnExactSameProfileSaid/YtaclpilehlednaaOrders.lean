/- All orders of a list: what the program's functions compute. -/
import Derived.Test.YtaclpilehlednaaAppendL
import Derived.Test.YtaclpilehlednaaConcat
import Derived.Test.YtaclpilehlednaaPlainAll
import Derived.Test.YtaclpilehlednaaRange
import Derived.Deep.RegionWith
import Derived.Deep.DeepCutAuto
import Derived.Deep.DrawnRows
namespace Go.Proofs.Ytaclpilehlednaa
open Go.RowKit

theorem nth_upTo {m j : Nat} (h : j < m) : nth (upTo m) j = j := by simp [nth, List.getD, upTo, h]
theorem upTo_len (m : Nat) : (upTo m).length = m := by simp [upTo]
/-- What the outer loop has gathered behind k rounds. -/
def ordK (q : Nat) (xs : List Int) (k : Nat) : List (List Int) := (List.range k).flatMap fun i => (ordP q (xs.take i ++ xs.drop (i + 1))).map fun r => nth xs i :: r
theorem ordK_succ (q : Nat) (xs : List Int) (k : Nat) : ordK q xs (k + 1) = ordK q xs k ++ (ordP q (xs.take k ++ xs.drop (k + 1))).map fun r => nth xs k :: r := by
  simp [ordK, List.range_succ]
theorem ordP_succ (q : Nat) (xs : List Int) : ordP (q + 1) xs = ordK q xs xs.length := rfl
theorem sum_const {α : Type} (c : Nat) : ∀ l : List α, (l.map fun _ => c).sum = l.length * c
  | [] => by simp
  | a :: l => by simp [sum_const c l, Nat.add_mul]; omega
def fact : Nat → Nat
  | 0 => 1
  | k + 1 => (k + 1) * fact k
theorem ord_bd : ∀ (q : Nat) (xs : List Int), q ≤ 5 → xs.length = q → (ordP q xs).length ≤ 120
  | 0, _, _, _ => by simp [ordP]
  | q + 1, xs, h, hl => by
    have key : ∀ (q : Nat) (xs : List Int), xs.length = q → (ordP q xs).length = fact q := by
      intro q
      induction q with
      | zero => intro xs _; simp [ordP, fact]
      | succ q ih =>
        intro xs hl
        simp only [ordP, List.length_flatMap, List.length_map, fact]
        have : ∀ i ∈ List.range xs.length, (ordP q (xs.take i ++ xs.drop (i + 1))).length = fact q := by
          intro i hi
          rw [List.mem_range] at hi
          apply ih
          simp
          omega
        rw [List.map_congr_left this, sum_const, List.length_range, hl]
    rw [key _ _ hl]
    have : q = 0 ∨ q = 1 ∨ q = 2 ∨ q = 3 ∨ q = 4 := by omega
    rcases this with rfl | rfl | rfl | rfl | rfl <;> decide
theorem ord_each : ∀ (q : Nat) (xs r : List Int), r ∈ ordP q xs → r.length = q
  | 0, xs, r, h => by simp [ordP] at h; simp [h]
  | q + 1, xs, r, h => by
    simp only [ordP, List.mem_flatMap, List.mem_map] at h
    obtain ⟨i, _, r', h1, rfl⟩ := h
    simp [ord_each q _ r' h1]
theorem take_map_snoc {ls : List (List Int)} {j : Nat} (f : List Int → List Int) {r : List Int} (h : ls[j]? = some r) : (ls.take (j + 1)).map f = (ls.take j).map f ++ [f r] := by
  obtain ⟨hlt, e⟩ := List.getElem?_eq_some_iff.1 h
  rw [List.take_succ_eq_append_getElem hlt, List.map_append, e]
  rfl

set_option maxHeartbeats 1000000 in
theorem implIndices (n : Nat) (w : World) (hn : (n : Int) ≤ 1048576) :
    Calls Try.prog 58 #[.int .i64 (n : Int)] w fun e w' => ∃ A c, e = .returned (.slice A n c) ∧ Own w' w.heap.size A n c (upTo n) ∧ Below w.heap.size w w' := by
  have hmk := run_make_row' (P := Try.prog) 22 3 (.int .i64 0) 8 Try.underlying22 infoInt rfl .i64 .i64 n (by omega) (by omega)
  go_enter Try.func58, Try.ntmps58
  go_wp2
  have HM := Lib.hid hmk; clear hmk
  have hst : (w.alloc (.cells (madeCells #[.int .i64 0] n) 3)).rowIs w.heap.size 3 n (fun j => .int .i64 (if j < 0 then (j : Int) else 0)) := (World.rowIs_made w (.int .i64 0) n 3).congr fun j _ => by simp
  have hbl : Below w.heap.size w (w.alloc (.cells (madeCells #[.int .i64 0] n) 3)) := (Below.refl _ _).alloc (Nat.le_refl _) _
  generalize w.alloc (.cells (madeCells #[.int .i64 0] n) 3) = W at *
  go_loopw [9] (fun u wr => ∃ k : Nat, (k : Int) ≤ n ∧ u = .int .i64 k ∧ wr.rowIs w.heap.size 3 n (fun j => .int .i64 (if j < k then (j : Int) else 0)) ∧ Below w.heap.size w wr) (fun u _ => n - (intOf u).toNat)
  case atStart => exact ⟨0, by omega, rfl, hst, hbl⟩
  case round =>
    obtain ⟨k, hk, rfl, hrow, hb⟩ := hrel
    by_cases hlt : (k : Int) < n
    · have hc2 := hrow.cell (i := k) (by omega)
      have hf2 := hrow.frozen k
      go_wp2
      go_roundw
      case rel =>
        refine ⟨k + 1, by omega, by go_num, (hrow.set k _).congr fun j _ => ?_, hb.setCell (Nat.le_refl _) _⟩
        by_cases e : j = k
        · subst e; rw [if_pos rfl, if_pos (by omega)]
        · rw [if_neg e]
          by_cases e2 : j < k
          · rw [if_pos e2, if_pos (by omega)]
          · rw [if_neg e2, if_neg (by omega)]
      case measure => simp [intOf]; omega
    · obtain rfl : k = n := by omega
      go_wp2
      go_ret
      exact ⟨some ⟨w.heap.size, 0, none⟩, k, rfl, own_of_row hrow (Nat.le_refl _) (by simp only [maxLen]; omega) (by rw [iv_len, upTo_len]) (fun j hj => by rw [iv_at (by rw [upTo_len]; exact hj), nth_upTo hj, if_pos hj]), hb⟩

attribute [local go_sem ↓] Go.wp_at_zero Go.wp_at_succ
set_option maxHeartbeats 4000000 in
theorem implOrders (k : Nat) : ∀ (A : Option Addr) (c : Nat) (xs : List Int) (w : World), (k : Int) ≤ 5 → Ints w A k xs → (k : Int) ≤ c →
    Calls Try.prog 57 #[.slice A k c] w fun e w' => ∃ A' n' c', e = .returned (.slice A' n' c') ∧ ∃ hs, OwnL w' w.heap.size A' n' c' hs ∧ cont hs = ordP k xs ∧ Below w.heap.size w w' := by
  induction k with
  | zero =>
    intro A c xs w hk5 h hkc
    go_enter Try.func57, Try.ntmps57
    go_wp2
    go_ret
    exact ⟨some ⟨w.heap.size, 0, none⟩, 1, 1, rfl, [(none, 0, [])], ownL_one w _ (Nat.le_refl _), rfl, (Below.refl _ _).alloc (Nat.le_refl _) _⟩
  | succ q IH0 =>
    intro A c xs w hk5 h hkc
    have IH := Lib.hid IH0
    clear IH0
    obtain ⟨n, hn⟩ : ∃ n, n = q + 1 := ⟨_, rfl⟩
    have hnq : Hid (n = q + 1) := hn
    rw [← hn] at h hk5 hkc ⊢
    have h0 : ((n : Int) == 0) = false := by simp; omega
    have HQ : Hid (ordP n xs = ordK q xs n) := by rw [hn, ordP_succ, h.1, hn]; exact rfl
    clear hn
    have HBD := Lib.hid (ord_bd q)
    have HL := Lib.hid h.1
    go_enter Try.func57, Try.ntmps57
    go_wp2_with fail
    go_loopw [3, 14] (fun u v wr => ∃ (k : Nat) (B : Option Addr) (d m : Nat) (hs : List Hd), (k : Int) ≤ n ∧ m ≤ 120 * k ∧ u = .slice B m d ∧ v = .int .i64 k ∧ OwnL wr w.heap.size B m d hs ∧ cont hs = ordK q xs k ∧ Below w.heap.size w wr) (fun _ v _ => n - (intOf v).toNat)
    case atStart => exact ⟨0, none, 0, 0, [], by omega, by omega, rfl, rfl, OwnL.nil_ _ _, rfl, Below.refl _ _⟩
    case round =>
      obtain ⟨k, B, d, m, hs, hk, hm, rfl, rfl, hown, hcont, hb⟩ := hrel
      obtain ⟨wo, rfl⟩ : ∃ wo : World, wo = wr := ⟨_, rfl⟩
      have HC := Lib.hid hcont; clear hcont
      by_cases hlt : (k : Int) < n
      · have hI := h.on hb
        have hcut := hI.cut (k := k + 1) (cap := c) (by omega) (by omega)
        have htk := hI.take (k := k) (by omega)
        obtain ⟨b, ox, rfl, hbs, hcell⟩ := hI.at_ (k := k) (by omega)
        have k1 : (k : Int) + 1 ≤ n := by omega
        have k2 : (k : Int) + 1 ≤ c := by omega
        have k3 : (k : Int) ≤ c := by omega
        have hsz := hb.size
        have hqq : k + (n - (k + 1)) = q := by have := hnq.out; omega
        have hqx : (xs.take k ++ xs.drop (k + 1)).length = q := by rw [List.length_append, List.length_take, List.length_drop, HL.out]; omega
        have HQX := Lib.hid hqx; clear hqx
        have hwr : IntKind.i64.wrap ((k : Int) + 1) = (k : Int) + 1 := by rw [IntKind.wrap_i64]; omega
        have hn1 : (k : Int) ≤ 1000 := by omega
        have hn2 : ((n - (k + 1) : Nat) : Int) ≤ 1000 := by omega
        have hq5 : (q : Int) ≤ 5 := by have := hnq.out; omega
        by_cases hc1 : c = k + 1
        · have hcut : Ints wo (some ⟨b, ox, none⟩) (n - (k + 1)) (xs.drop (k + 1)) := by rw [if_pos hc1] at hcut; exact hcut
          subst hc1
          go_wp2_with fail
          go_region_with (first | (go_at_call 88; refine (libConcat wo.heap.size (some ⟨b, ox, none⟩) (some ⟨b, ox, none⟩) k (k + 1) (n - (k + 1)) 0 (xs.take k) (xs.drop (k + 1)) _ (by simp) (by simp) (htk.alloc _).drew (hcut.alloc _).drew hn1 hn2 (by simp)).mono ?_; rintro e w1 ⟨A1, c1, rfl, o1, b1⟩; rw [hqq] at o1; have b1 := Below.on (Below.drew ((Below.refl wo.heap.size wo).alloc (Nat.le_refl _) _)) b1) | (go_at_call 57; refine (IH.out _ _ (xs.take k ++ xs.drop (k + 1)) _ hq5 (Ints.of_own o1) (by have := (own_cap o1).1; omega)).mono ?_; rintro e w2 ⟨R, nR, cR, rfl, hR, oR, contR, bR⟩))
          all_goals (
            have HCR := Lib.hid contR
            have hnR : nR ≤ 120 := by rw [← oR.len, ← cont_len, HCR.out]; exact HBD.out _ (by omega) HQX.out
            have b12 := Below.on b1 bR
            have s1 := b1.size
            have s2 := bR.size
            have hown2 := hown.below b12 (Nat.le_refl _)
            have hin2 := hown.inn
            have hinR := oR.inn
            have bw2 := hb.trans (b12.mono hsz)
            have HX := Lib.hid hqq
            clear contR hqq
            go_simp
            go_wp2_with fail
            go_loopw [3, 30] (fun u v wi => ∃ (j : Nat) (B' : Option Addr) (d' m' : Nat) (hs' : List Hd), (j : Int) ≤ nR ∧ m' ≤ 120 * k + j ∧ u = .slice B' m' d' ∧ v = .int .i64 j ∧ OwnL wi w.heap.size B' m' d' hs' ∧ cont hs' = ordK q xs k ++ ((ordP q (xs.take k ++ xs.drop (k + 1))).take j).map (nth xs k :: ·) ∧ Below w.heap.size w wi ∧ OwnL wi w1.heap.size R nR cR hR ∧ (∀ a, B' = some a → a.block < w1.heap.size ∨ w2.heap.size ≤ a.block) ∧ w2.heap.size ≤ wi.heap.size) (fun _ v _ => nR - (intOf v).toNat)
            case atStart => exact ⟨0, B, d, m, hs, by omega, by omega, rfl, rfl, hown2, by rw [HC.out]; simp, bw2, oR, fun a ha => .inl (Nat.lt_of_lt_of_le (hin2.1 a ha) s1), Nat.le_refl _⟩
            case round =>
              obtain ⟨j, B', d', m', hs', hj, hm', rfl, rfl, hownI, hcontI, hbI, hRI, hapI, hszI⟩ := hrel
              obtain ⟨wi, rfl⟩ : ∃ wi : World, wi = wr := ⟨_, rfl⟩
              have HCI := Lib.hid hcontI; clear hcontI
              have HAP := Lib.hid hapI; clear hapI
              by_cases hlt2 : (j : Int) < nR
              · have hjl : j < hR.length := by rw [oR.len]; omega
                have hnth := Lib.hid (cont_nth hjl)
                have hlR : (hl hR j : Int) ≤ 5 := by
                  have h1 := hnth.out
                  rw [HCR.out] at h1
                  have := ord_each _ _ _ (List.mem_of_getElem? h1)
                  rw [hl, this]; exact hq5
                obtain ⟨b3, o3, he3, hb3, g1, g2, g3, g4⟩ := hRI.lists.at_ (k := j) (by omega)
                have hown3 := own_allocL (own_allocL hownI (.cells #[.int .i64 (nth xs k)] 3)) (.cells #[.slice (some ⟨wi.heap.size, 0, none⟩) 1 1, .slice (hA hR j) (hl hR j) (hc hR j)] 22)
                have bW2 : Below wi.heap.size wi ((wi.alloc (.cells #[.int .i64 (nth xs k)] 3)).alloc (.cells #[.slice (some ⟨wi.heap.size, 0, none⟩) 1 1, .slice (hA hR j) (hl hR j) (hc hR j)] 22)) := ((Below.refl _ _).alloc (Nat.le_refl _) _).alloc (by simp) _
                subst he3
                go_wp2_with fail
                refine (libConcat (wi.heap.size + 1) (some ⟨wi.heap.size, 0, none⟩) (hA hR j) 1 1 (hl hR j) (hc hR j) [nth xs k] (hx hR j) _ (by simp) (by simp) ((ints_one wi _ _).alloc _) ((g4.alloc _).alloc _) (by omega) (by omega) (by simp)).mono ?_
                rintro e w4 ⟨A3, c3, rfl, o4, b4⟩
                have e4 : ([nth xs k] ++ hx hR j).length = 1 + hl hR j := by simp [hl, Nat.add_comm]
                have E4 := Lib.hid e4; clear e4
                have bW4 := Below.on bW2 b4
                have hs4 : wi.heap.size + 2 ≤ w4.heap.size := by have := b4.size; simp at this; omega
                have hown4 := hownI.below bW4 (Nat.le_refl _)
                have hge := own_ge o4
                have HGE := Lib.hid hge; clear hge
                have hwi := hbI.size
                have hm'' : m' ≤ 1048576 := by omega
                go_wp2_with (first | (at_builtin; refine wpList_apL _ rfl _ _ rfl w.heap.size B' m' d' hs' rfl (own_allocL hown4 _) (A3, c3, [nth xs k] ++ hx hR j) w4.heap.size 1 rfl (by simp [hv, hl, Nat.add_comm]) (by show Own _ _ A3 ([nth xs k] ++ hx hR j).length c3 _; rw [E4.out]; exact own_alloc (own_mono o4 (by simp; omega)) _) wi.heap.size hownI.inn (fun a ha => by have := HGE.out a ha; simp at this; omega) hm'' (by simp; omega) ?_; intro B2 d2 w5 hown5 hgr hblk))
                have hT := Lib.hid (take_map_snoc (ls := ordP q (xs.take k ++ xs.drop (k + 1))) (nth xs k :: ·) (r := hx hR j) (j := j) (by rw [← HCR.out]; exact hnth.out))
                go_roundw
                case rel =>
                  refine ⟨j + 1, B2, d2, m' + 1, hs' ++ [(A3, c3, [nth xs k] ++ hx hR j)], by omega, by omega, rfl, by go_num, hown5, ?_, below_apL ((hbI.trans (bW4.mono hwi)).alloc (by omega) _) (own_allocL hown4 _) hgr (by simp; omega), OwnL.far (own_allocL (hRI.below bW4 (Nat.le_refl _)) _) hgr hinR ?_, ?_, ?_⟩
                  · rw [cont_append, HCI.out, hT.out, List.append_assoc]
                    rfl
                  · intro r hr
                    obtain ⟨a1, ha1, he1⟩ := map_block hr.symm
                    have := HAP.out a1 ha1
                    omega
                  · intro a ha
                    rcases hblk with e | e
                    · rw [ha] at e
                      obtain ⟨a1, ha1, he1⟩ := map_block e
                      have he2 : a1.block = a.block := he1
                      have := HAP.out a1 ha1
                      omega
                    · rw [ha] at e
                      injection e with e
                      have he2 : a.block = w4.heap.size + 1 := by simpa using e
                      right
                      omega
                  · have := hgr.size
                    simp at this
                    omega
                case measure => simp [intOf]; omega
              · obtain rfl : j = nR := by omega
                have HFIN : Hid (cont hs' = ordK q xs (k + 1)) := by
                  rw [Hid, HCI.out, ordK_succ, List.take_of_length_le (by rw [← HCR.out, cont_len, oR.len]; exact Nat.le_refl _)]
                go_wp2
                go_roundw
                case rel => first | exact ⟨k + 1, B', d', m', hs', by omega, by omega, rfl, by go_num, hownI, HFIN.out, hbI⟩ | ((repeat apply Exists.intro); exact ⟨⟨k + 1, B', d', m', hs', by omega, by omega, rfl, by go_num, hownI, HFIN.out, hbI⟩, rfl, rfl, rfl, rfl, rfl⟩)
                case measure => simp [intOf]; omega)
        · have hcut : Ints wo (some ⟨b, ox + (k + 1), none⟩) (n - (k + 1)) (xs.drop (k + 1)) := by rw [if_neg hc1] at hcut; simpa [Addr.add_lit] using hcut
          have hc2 : (c == k + 1) = false := by simpa using hc1
          go_wp2_with fail
          go_region_with (first | (go_at_call 88; refine (libConcat wo.heap.size (some ⟨b, ox, none⟩) (some ⟨b, ox + (k + 1), none⟩) k c (n - (k + 1)) (c - (k + 1)) (xs.take k) (xs.drop (k + 1)) _ (by simp) (by simp) (htk.alloc _).drew (hcut.alloc _).drew hn1 hn2 (by simp)).mono ?_; rintro e w1 ⟨A1, c1, rfl, o1, b1⟩; rw [hqq] at o1; have b1 := Below.on (Below.drew ((Below.refl wo.heap.size wo).alloc (Nat.le_refl _) _)) b1) | (go_at_call 57; refine (IH.out _ _ (xs.take k ++ xs.drop (k + 1)) _ hq5 (Ints.of_own o1) (by have := (own_cap o1).1; omega)).mono ?_; rintro e w2 ⟨R, nR, cR, rfl, hR, oR, contR, bR⟩))
          all_goals (
            have HCR := Lib.hid contR
            have hnR : nR ≤ 120 := by rw [← oR.len, ← cont_len, HCR.out]; exact HBD.out _ (by omega) HQX.out
            have b12 := Below.on b1 bR
            have s1 := b1.size
            have s2 := bR.size
            have hown2 := hown.below b12 (Nat.le_refl _)
            have hin2 := hown.inn
            have hinR := oR.inn
            have bw2 := hb.trans (b12.mono hsz)
            have HX := Lib.hid hqq
            clear contR hqq
            go_simp
            go_wp2_with fail
            go_loopw [3, 30] (fun u v wi => ∃ (j : Nat) (B' : Option Addr) (d' m' : Nat) (hs' : List Hd), (j : Int) ≤ nR ∧ m' ≤ 120 * k + j ∧ u = .slice B' m' d' ∧ v = .int .i64 j ∧ OwnL wi w.heap.size B' m' d' hs' ∧ cont hs' = ordK q xs k ++ ((ordP q (xs.take k ++ xs.drop (k + 1))).take j).map (nth xs k :: ·) ∧ Below w.heap.size w wi ∧ OwnL wi w1.heap.size R nR cR hR ∧ (∀ a, B' = some a → a.block < w1.heap.size ∨ w2.heap.size ≤ a.block) ∧ w2.heap.size ≤ wi.heap.size) (fun _ v _ => nR - (intOf v).toNat)
            case atStart => exact ⟨0, B, d, m, hs, by omega, by omega, rfl, rfl, hown2, by rw [HC.out]; simp, bw2, oR, fun a ha => .inl (Nat.lt_of_lt_of_le (hin2.1 a ha) s1), Nat.le_refl _⟩
            case round =>
              obtain ⟨j, B', d', m', hs', hj, hm', rfl, rfl, hownI, hcontI, hbI, hRI, hapI, hszI⟩ := hrel
              obtain ⟨wi, rfl⟩ : ∃ wi : World, wi = wr := ⟨_, rfl⟩
              have HCI := Lib.hid hcontI; clear hcontI
              have HAP := Lib.hid hapI; clear hapI
              by_cases hlt2 : (j : Int) < nR
              · have hjl : j < hR.length := by rw [oR.len]; omega
                have hnth := Lib.hid (cont_nth hjl)
                have hlR : (hl hR j : Int) ≤ 5 := by
                  have h1 := hnth.out
                  rw [HCR.out] at h1
                  have := ord_each _ _ _ (List.mem_of_getElem? h1)
                  rw [hl, this]; exact hq5
                obtain ⟨b3, o3, he3, hb3, g1, g2, g3, g4⟩ := hRI.lists.at_ (k := j) (by omega)
                have hown3 := own_allocL (own_allocL hownI (.cells #[.int .i64 (nth xs k)] 3)) (.cells #[.slice (some ⟨wi.heap.size, 0, none⟩) 1 1, .slice (hA hR j) (hl hR j) (hc hR j)] 22)
                have bW2 : Below wi.heap.size wi ((wi.alloc (.cells #[.int .i64 (nth xs k)] 3)).alloc (.cells #[.slice (some ⟨wi.heap.size, 0, none⟩) 1 1, .slice (hA hR j) (hl hR j) (hc hR j)] 22)) := ((Below.refl _ _).alloc (Nat.le_refl _) _).alloc (by simp) _
                subst he3
                go_wp2_with fail
                refine (libConcat (wi.heap.size + 1) (some ⟨wi.heap.size, 0, none⟩) (hA hR j) 1 1 (hl hR j) (hc hR j) [nth xs k] (hx hR j) _ (by simp) (by simp) ((ints_one wi _ _).alloc _) ((g4.alloc _).alloc _) (by omega) (by omega) (by simp)).mono ?_
                rintro e w4 ⟨A3, c3, rfl, o4, b4⟩
                have e4 : ([nth xs k] ++ hx hR j).length = 1 + hl hR j := by simp [hl, Nat.add_comm]
                have E4 := Lib.hid e4; clear e4
                have bW4 := Below.on bW2 b4
                have hs4 : wi.heap.size + 2 ≤ w4.heap.size := by have := b4.size; simp at this; omega
                have hown4 := hownI.below bW4 (Nat.le_refl _)
                have hge := own_ge o4
                have HGE := Lib.hid hge; clear hge
                have hwi := hbI.size
                have hm'' : m' ≤ 1048576 := by omega
                go_wp2_with (first | (at_builtin; refine wpList_apL _ rfl _ _ rfl w.heap.size B' m' d' hs' rfl (own_allocL hown4 _) (A3, c3, [nth xs k] ++ hx hR j) w4.heap.size 1 rfl (by simp [hv, hl, Nat.add_comm]) (by show Own _ _ A3 ([nth xs k] ++ hx hR j).length c3 _; rw [E4.out]; exact own_alloc (own_mono o4 (by simp; omega)) _) wi.heap.size hownI.inn (fun a ha => by have := HGE.out a ha; simp at this; omega) hm'' (by simp; omega) ?_; intro B2 d2 w5 hown5 hgr hblk))
                have hT := Lib.hid (take_map_snoc (ls := ordP q (xs.take k ++ xs.drop (k + 1))) (nth xs k :: ·) (r := hx hR j) (j := j) (by rw [← HCR.out]; exact hnth.out))
                go_roundw
                case rel =>
                  refine ⟨j + 1, B2, d2, m' + 1, hs' ++ [(A3, c3, [nth xs k] ++ hx hR j)], by omega, by omega, rfl, by go_num, hown5, ?_, below_apL ((hbI.trans (bW4.mono hwi)).alloc (by omega) _) (own_allocL hown4 _) hgr (by simp; omega), OwnL.far (own_allocL (hRI.below bW4 (Nat.le_refl _)) _) hgr hinR ?_, ?_, ?_⟩
                  · rw [cont_append, HCI.out, hT.out, List.append_assoc]
                    rfl
                  · intro r hr
                    obtain ⟨a1, ha1, he1⟩ := map_block hr.symm
                    have := HAP.out a1 ha1
                    omega
                  · intro a ha
                    rcases hblk with e | e
                    · rw [ha] at e
                      obtain ⟨a1, ha1, he1⟩ := map_block e
                      have he2 : a1.block = a.block := he1
                      have := HAP.out a1 ha1
                      omega
                    · rw [ha] at e
                      injection e with e
                      have he2 : a.block = w4.heap.size + 1 := by simpa using e
                      right
                      omega
                  · have := hgr.size
                    simp at this
                    omega
                case measure => simp [intOf]; omega
              · obtain rfl : j = nR := by omega
                have HFIN : Hid (cont hs' = ordK q xs (k + 1)) := by
                  rw [Hid, HCI.out, ordK_succ, List.take_of_length_le (by rw [← HCR.out, cont_len, oR.len]; exact Nat.le_refl _)]
                go_wp2
                go_roundw
                case rel => first | exact ⟨k + 1, B', d', m', hs', by omega, by omega, rfl, by go_num, hownI, HFIN.out, hbI⟩ | ((repeat apply Exists.intro); exact ⟨⟨k + 1, B', d', m', hs', by omega, by omega, rfl, by go_num, hownI, HFIN.out, hbI⟩, rfl, rfl, rfl, rfl, rfl⟩)
                case measure => simp [intOf]; omega)
      · obtain rfl : k = n := by omega
        go_wp2
        go_ret
        exact ⟨B, m, d, rfl, hs, hown, HC.out.trans HQ.out.symm, hb⟩


theorem hb_of {hs : List Hd} {n q : Nat} {ls : List (List Int)} (hlen : hs.length = n) (hc : cont hs = ls) (hq : ∀ r ∈ ls, r.length = q) {k : Nat} (hk : k < n) : hl hs k = q := by
  have h1 := cont_nth (hs := hs) (k := k) (by omega)
  rw [hc] at h1
  exact hq _ (List.mem_of_getElem? h1)

set_option maxHeartbeats 1000000 in
theorem implAllRankings (m : Int) (w : World) :
    Calls Try.prog 21 #[.int .i64 m] w fun e w' => ∃ A' n' c', e = .returned (.slice A' n' c') ∧ ∃ hs, OwnL w' w.heap.size A' n' c' hs ∧ cont hs = ranksP m ∧ Below w.heap.size w w' := by
  by_cases h1 : 1 ≤ m ∧ m ≤ 5
  · have hin := inB_true h1
    obtain ⟨n, rfl⟩ : ∃ n : Nat, m = (n : Int) := ⟨m.toNat, by omega⟩
    obtain ⟨h1a, h1b⟩ := h1
    have HR := Lib.hid (ranks_yes ⟨h1a, h1b⟩)
    go_enter Try.func21, Try.ntmps21
    go_wp2_with fail
    refine (implWithin _ _ _ _).mono ?_; rintro e w1 ⟨rfl, rfl⟩
    go_wp2_with fail
    refine (implIndices n _ (by omega)).mono ?_; rintro e w1 ⟨A1, c1, rfl, o1, b1⟩
    go_wp2_with fail
    refine (implOrders n _ _ (upTo n) _ h1b (Ints.of_own o1) (by have := (own_cap o1).1; omega)).mono ?_; rintro e w2 ⟨R, nR, cR, rfl, hR, oR, contR, bR⟩
    have CR := Lib.hid contR; clear contR
    go_wp2_with fail
    go_ret
    exact ⟨R, nR, cR, rfl, hR, oR.mono b1.size, CR.out.trans HR.out.symm, Below.on b1 bR⟩
  · have hin := inB_false h1
    rw [ranks_no h1]
    go_enter Try.func21, Try.ntmps21
    go_wp2_with fail
    refine (implWithin _ _ _ _).mono ?_; rintro e w1 ⟨rfl, rfl⟩
    go_wp2_with fail
    go_ret
    exact ⟨none, 0, 0, rfl, [], OwnL.nil_ _ _, rfl, Below.refl _ _⟩

end Go.Proofs.Ytaclpilehlednaa
