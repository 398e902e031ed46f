/- commonsbook.Room of some sizes; Light of steps of a disk, and of a log. -/
import Derived.Test.YtjffjolopoejlaaGreatDoorKEvKit
import Derived.Test.YtjffjolopoejlaaGreatDoorKRecE
import Derived.Test.YtjffjolopoejlaaGreatDoorKMapR
import Derived.Test.YtjffjolopoejlaaGreatDoorKWireC
namespace Go.Proofs.YtjffjolopoejlaaGreatDoor
open Go.RowKit

def roomN (left : Int) (ns : List Int) : Int := ns.foldl room1 left
theorem roomN_neg : ∀ ns : List Int, roomN (-1) ns = -1
  | [] => rfl
  | n :: ns => by
    show roomN (room1 (-1) n) ns = -1
    rw [show room1 (-1) n = -1 from if_pos (.inl (by decide))]
    exact roomN_neg ns
theorem roomN_drop {left : Int} {ns : List Int} {j : Nat} {n : Int} (h : ns[j]? = some n) : roomN left (ns.drop j) = roomN (room1 left n) (ns.drop (j + 1)) := by
  obtain ⟨hj, e⟩ := List.getElem?_eq_some_iff.1 h
  rw [List.drop_eq_getElem_cons hj, e]
  rfl
set_option maxRecDepth 100000 in
set_option maxHeartbeats 1000000 in
theorem rooms_any (w : World) (left : Int) (A : Option Addr) (cap : Nat) (ns : List Int) (hrd : Reads w 1 A ns.length (intcells ns)) (hl : -1 ≤ left ∧ left ≤ 1000000000) (hn : ∀ n ∈ ns, 0 ≤ n ∧ n ≤ 9223372036854775807) (hlen : ns.length ≤ 1000000) :
    Calls Tryz.prog 14 #[.int .i64 left, .slice A ns.length cap] w fun e w' => e = .returned (.int .i64 (roomN left ns)) ∧ w = w' := by
  have HR := Lib.hid hrd
  have HN := Lib.hid hn
  have hlenI : (ns.length : Int) ≤ 1000000 := by omega
  have HE := Lib.hid (show roomN left ns = roomN left (ns.drop 0) from rfl)
  generalize roomN left ns = E at HE ⊢
  obtain ⟨l1, l2⟩ := hl
  clear hrd hn hlen
  go_enter Tryz.func14, Tryz.ntmps14
  go_wp2_with fail
  go_loopw [0, 5] (fun l i wr => ∃ (j : Nat) (x : Int), j ≤ ns.length ∧ l = .int .i64 x ∧ i = .int .i64 j ∧ wr = w ∧ -1 ≤ x ∧ x ≤ 1000000000 ∧ E = roomN x (ns.drop j)) (fun _ i _ => ns.length - (intOf i).toNat)
  case atStart => exact ⟨0, left, by omega, rfl, rfl, rfl, l1, l2, HE.out⟩
  case round =>
    obtain ⟨j, x, hj, rfl, rfl, rfl, x1, x2, he⟩ := hrel
    have HX := Lib.hid he
    clear he HE
    by_cases hlt : j < ns.length
    · have hltI : (j : Int) < (ns.length : Int) := by omega
      obtain ⟨n, hnj⟩ : ∃ n, ns[j]? = some n := ⟨_, List.getElem?_eq_getElem hlt⟩
      obtain ⟨n1, n2⟩ := HN.out n (List.mem_of_getElem? hnj)
      have HX2 := Lib.hid (HX.out.trans (roomN_drop hnj))
      have hgd : ns.getD j 0 = n := by rw [List.getD_eq_getElem?_getD, hnj]; rfl
      obtain ⟨ad, rfl, c0⟩ := HR.out.int hlt
      rw [hgd] at c0
      clear hnj hgd HX
      by_cases h0 : x < 0
      · have HF := Lib.hid (show E = -1 by rw [HX2.out, show room1 x n = -1 from if_pos (.inl h0), roomN_neg])
        go_wp2_with fail
        go_ret
        exact ⟨by rw [HF.out]; first | done | rfl, rfl⟩
      · by_cases h1 : x < n
        · have HF := Lib.hid (show E = -1 by rw [HX2.out, show room1 x n = -1 from if_pos (.inr h1), roomN_neg])
          go_wp2_with fail
          go_ret
          exact ⟨by rw [HF.out]; first | done | rfl, rfl⟩
        · have HF := Lib.hid (show E = roomN (x - n) (ns.drop (j + 1)) by rw [HX2.out, show room1 x n = x - n from if_neg (by omega)])
          go_wp2_with fail
          go_roundw
          case rel => exact ⟨j + 1, x - n, by omega, by go_num, by go_num, trivial, by omega, by omega, HF.out⟩
          case measure => simp [intOf]; omega
    · have hltI : ¬ (j : Int) < (ns.length : Int) := by omega
      have HF := Lib.hid (show E = x by rw [HX.out, List.drop_of_length_le (by omega)]; rfl)
      go_wp2_with fail
      go_ret
      exact ⟨by rw [HF.out]; first | done | rfl, rfl⟩
theorem rooms_two (w : World) (left a b : Int) (g : Nat) (hrd : Reads w 1 (some ⟨g, 0, none⟩) 2 (intcells [a, b])) (hl : -1 ≤ left ∧ left ≤ 1000000000) (ha : 0 ≤ a ∧ a ≤ 9223372036854775807) (hb : 0 ≤ b ∧ b ≤ 9223372036854775807) :
    Calls Tryz.prog 14 #[.int .i64 left, .slice (some ⟨g, 0, none⟩) 2 2] w fun e w' => e = .returned (.int .i64 (room1 (room1 left a) b)) ∧ w = w' :=
  rooms_any w left (some ⟨g, 0, none⟩) 2 [a, b] hrd hl (fun n hn => by
    rcases List.mem_cons.1 hn with rfl | hn
    · exact ha
    · rw [List.mem_singleton.1 hn]
      exact hb) (show 2 ≤ 1000000 by decide)
theorem room1_ok {x n : Int} (h : 0 ≤ room1 x n) : 0 ≤ x ∧ n ≤ x ∧ room1 x n = x - n := by
  unfold room1 at h ⊢
  split at h
  · omega
  · rename_i h1
    rw [if_neg h1]
    exact ⟨by omega, by omega, rfl⟩
/-- a row of steps of a disk -/
def dcells (l : List (DOp × Value)) : List Value := l.flatMap (fun x => x.1.cells x.2)
/-- what a step of a disk may have -/
def DOp.Lt (o : DOp) : Prop := o.data.size ≤ 20000 ∧ o.keep.length ≤ 20000
set_option maxRecDepth 100000 in
set_option maxHeartbeats 4000000 in
theorem light8_any (w : World) (A : Option Addr) (cap : Nat) (l : List (DOp × Value)) (hrd : Reads w 8 A l.length (dcells l)) (hlen : l.length ≤ 100) (hk : ∀ x ∈ l, (∃ B cp, x.2 = .slice B x.1.keep.length cp) ∧ x.1.data.size ≤ maxLen ∧ x.1.keep.length ≤ maxLen) :
    Calls Tryz.prog 15 #[.slice A l.length cap] w (LightPost w (∀ x ∈ l, x.1.Lt)) := by
  have HR := Lib.hid hrd
  have HK := Lib.hid hk
  have hlenI : (l.length : Int) ≤ 100 := by omega
  clear hrd hk hlen
  go_enter Tryz.func15, Tryz.ntmps15
  go_wp2_with fail
  go_loopw [3, 4] (fun t3 t4 wr => ∃ (j : Nat) (x : Int), j ≤ l.length ∧ t3 = .int .i64 x ∧ t4 = .int .i64 j ∧ -1 ≤ x ∧ x ≤ 20000 ∧ (0 ≤ x → ∀ y ∈ l.take j, y.1.Lt) ∧ Below w.heap.size w wr) (fun _ t4 _ => l.length - (intOf t4).toNat)
  case atStart => exact ⟨0, 20000, by omega, rfl, rfl, by omega, by omega, (fun _ y hy => by simp at hy), Below.refl _ _⟩
  case round =>
    obtain ⟨j, x, hj, rfl, rfl, x1, x2, hx, hb⟩ := hrel
    have HX := Lib.hid hx
    have HB := Lib.hid hb
    clear hx hb
    by_cases hlt : j < l.length
    · have hltI : (j : Int) < (l.length : Int) := by omega
      have h200 : (j : Int) < 200 := by omega
      by_cases h0 : 0 ≤ x
      · obtain ⟨⟨o, v⟩, ho⟩ : ∃ y, l[j]? = some y := ⟨_, List.getElem?_eq_getElem hlt⟩
        have HKO := Lib.hid (HK.out _ (List.mem_of_getElem? ho))
        obtain ⟨⟨B, cp, hv⟩, hk1, hk2⟩ := HKO.out
        simp only at hv
        subst hv
        obtain ⟨ad, rfl, hc⟩ := Reads.row (f := fun x : DOp × Value => x.1.cells x.2) (fun _ => rfl) (HR.out.below' (by omega) HB.out) ho
        have c5 : wr.cell? ⟨(ad.add (j * 8)).block, (ad.add (j * 8)).off + 5, none⟩ = some (.string o.data) := hc 5 _ rfl
        have c6 : wr.cell? ⟨(ad.add (j * 8)).block, (ad.add (j * 8)).off + 6, none⟩ = some (.slice B o.keep.length cp) := hc 6 _ rfl
        have HO := Lib.hid ho
        clear hc ho
        have dn5 := World.new_ne wr _ c5
        have dn6 := World.new_ne wr _ c6
        obtain ⟨a, ha⟩ : ∃ a : Int, (o.data.size : Int) = a := ⟨_, rfl⟩
        obtain ⟨b, hb⟩ : ∃ b : Int, (o.keep.length : Int) = b := ⟨_, rfl⟩
        have hab : 0 ≤ a ∧ a ≤ 9223372036854775807 ∧ 0 ≤ b ∧ b ≤ 9223372036854775807 := by unfold maxLen at hk1 hk2; simp only at hk1 hk2; omega
        have HLF := Lib.hid (show -1 ≤ x ∧ x ≤ 1000000000 by omega)
        have HNA := Lib.hid (show 0 ≤ a ∧ a ≤ 9223372036854775807 by omega)
        have HNB := Lib.hid (show 0 ≤ b ∧ b ≤ 9223372036854775807 by omega)
        have HRD := Lib.hid (Reads.newAt wr 3 1 2 (intcells [a, b]) #[.int .i64 a, .int .i64 b] wr.heap.size rfl rfl rfl)
        go_upto_region 5 with (fail)
        go_region_held3 (fun w' => w'.cell? ⟨(ad.add (j * 8)).block, (ad.add (j * 8)).off + 5, none⟩ = some (.string o.data) ∧ w'.cell? ⟨(ad.add (j * 8)).block, (ad.add (j * 8)).off + 6, none⟩ = some (.slice B o.keep.length cp))
          (first | exact ⟨c5, c6⟩ | go_keep)
          (first | (go_at_call 14; ((with_reducible refine (rooms_two _ x a b wr.heap.size HRD.out.drew HLF.out HNA.out HNB.out).mono ?_); rintro e2 w2 ⟨rfl, rfl⟩)))
        have hab2 := hab
        obtain ⟨X, hX⟩ : ∃ X, room1 (room1 x a) b = X := ⟨_, rfl⟩
        have hX1 : -1 ≤ X ∧ X ≤ 20000 ∧ (0 ≤ X → o.Lt) := by
          have e : room1 (room1 x a) b = X := hX
          have q1 := room1_le (left := x) (n := a) ⟨x1, by omega⟩ (by omega)
          have q2 := room1_le (left := room1 x a) (n := b) q1 (by omega)
          rw [e] at q2
          refine ⟨q2.1, ?_, fun h => ?_⟩
          · have u1 : room1 x a ≤ 20000 := by unfold room1; split <;> omega
            rw [← e]
            unfold room1 at u1 ⊢
            split <;> omega
          · rw [← e] at h
            obtain ⟨r1, r2, r3⟩ := room1_ok h
            obtain ⟨r4, r5, r6⟩ := room1_ok r1
            unfold DOp.Lt
            omega
        rw [hX]
        clear hX
        have HB2 := Lib.hid (HB.out.alloc HB.out.size (.cells #[.int .i64 a, .int .i64 b] 3))
        have HT := Lib.hid (show 0 ≤ X → ∀ y ∈ l.take (j + 1), y.1.Lt from fun h y hy => by
          rw [List.take_add_one, HO.out] at hy
          rcases List.mem_append.1 hy with hy | hy
          · exact HX.out h0 y hy
          · rw [List.mem_singleton.1 (show y ∈ [(o, Value.slice B o.keep.length cp)] from hy)]
            exact hX1.2.2 h)
        clear c5 c6 dn5 dn6
        go_wp2_with fail
        go_roundw
        case rel => exact ⟨j + 1, X, by omega, by go_num, by go_num, hX1.1, hX1.2.1, HT.out, HB2.out.drew⟩
        case measure => simp [intOf]; omega
      · by_cases h80 : (l.length : Int) ≤ 80
        · go_wp2_with fail
          go_ret
          exact ⟨_, rfl, by simp, HB.out⟩
        · go_wp2_with fail
          go_ret
          exact ⟨_, rfl, by simp, HB.out⟩
    · have hltI : ¬ (j : Int) < (l.length : Int) := by omega
      have hall : l.take j = l := List.take_of_length_le (by omega)
      have HXA := Lib.hid (show 0 ≤ x → ∀ y ∈ l, y.1.Lt by rw [← hall]; exact HX.out)
      clear HX hall
      by_cases h80 : (l.length : Int) ≤ 80
      · by_cases h0 : 0 ≤ x
        · go_wp2_with fail
          go_ret
          exact ⟨_, rfl, (fun _ => by first | exact HXA.out h0 | exact fun a b hab => HXA.out h0 (a, b) hab), HB.out⟩
        · go_wp2_with fail
          go_ret
          exact ⟨_, rfl, by simp, HB.out⟩
      · go_wp2_with fail
        go_ret
        exact ⟨_, rfl, by simp, HB.out⟩
theorem info_dop : (Tryz.prog.info? 29).map (fun i => (i.zero, i.size, i.bytes)) = some (some (.agg #[.int .i64 0, .int .i64 0, .int .i64 0, .int .i64 0, .int .u64 0, .string ⟨#[]⟩, .slice none 0 0, .bool false]), 8, 88) := by kernel_rfl
/-- the disk's steps of those of a log -/
def dsOf (l : List LOp) (vs : List (Value × Value)) : List (DOp × Value) := (l.zip vs).map (fun x => (x.1.d, x.2.2))
theorem ds_get {l : List LOp} {vs : List (Value × Value)} {j : Nat} {o : LOp} {lv kv : Value} (ho : l[j]? = some o) (hv : vs[j]? = some (lv, kv)) : (dsOf l vs)[j]? = some (o.d, kv) := by
  unfold dsOf
  rw [List.getElem?_map, (List.getElem?_zip_eq_some (l₁ := l) (l₂ := vs) (z := (o, (lv, kv)))).2 ⟨ho, hv⟩]
  rfl
theorem ds_len {W : World} {A : Option Addr} {l : List LOp} {vs : List (Value × Value)} (h : OpsRd W A l vs) : (dsOf l vs).length = l.length := by
  unfold dsOf
  rw [List.length_map, List.length_zip, h.len, Nat.min_self]
theorem dcells_succ {ds : List (DOp × Value)} {j : Nat} {x : DOp × Value} (h : ds[j]? = some x) : dcells (ds.take (j + 1)) = dcells (ds.take j) ++ x.1.cells x.2 := by
  unfold dcells
  rw [List.take_add_one, h, Option.toList_some, List.flatMap_append, List.flatMap_singleton]
/-- steps that are light -/
def LightL (l : List LOp) : Prop := l.length ≤ 60 ∧ ∀ o ∈ l, o.l.length ≤ 70 ∧ o.d.Lt
set_option maxRecDepth 100000 in
set_option maxHeartbeats 8000000 in
theorem light12_any (w : World) (A : Option Addr) (cap : Nat) (l : List LOp) (vs : List (Value × Value)) (hrd : OpsRd w A l vs) (hln : l.length ≤ maxLen) (hin : ∀ o ∈ l, o.InB) :
    Calls Tryz.prog 4 #[.slice A l.length cap] w (LightPost w (LightL l)) := by
  have HR := Lib.hid hrd
  have HI := Lib.hid hin
  have HDL := Lib.hid (ds_len hrd)
  have hlnI : (l.length : Int) ≤ 9223372036854775807 := by unfold maxLen at hln; omega
  obtain ⟨i0, hi0, hz0, hz1, hz2⟩ := info_parts info_dop
  have HI0 := Lib.hid hi0
  have HZ0 := Lib.hid hz0
  have HZ1 := Lib.hid hz1
  have HZ2 := Lib.hid hz2
  clear hrd hln hin hi0 hz0 hz1 hz2
  go_enter Tryz.func4, Tryz.ntmps4
  go_wp2_with fail
  go_loopw [3, 4, 5] (fun t3 t4 t5 wr => ∃ (j : Nat) (x : Int) (D : Option Addr) (cp : Nat) (o : Nat → Nat), j ≤ l.length ∧ j ≤ 200 ∧ t3 = .slice D j cp ∧ t4 = .int .i64 x ∧ t5 = .int .i64 j ∧ -1 ≤ x ∧ x ≤ 30000 ∧ (∀ y ∈ l.take j, y.l.length ≤ 70) ∧ OwnS o 1 wr 29 8 (.slice D j cp) j (dcells ((dsOf l vs).take j)) ∧ Env o w wr) (fun _ _ t5 _ => l.length - (intOf t5).toNat)
  case atStart => exact ⟨0, 30000, none, 0, fun _ => 0, by omega, by omega, rfl, rfl, rfl, by omega, by omega, (fun y hy => by simp at hy), OwnS.nil _ _ _ _ _, Env.start w⟩
  case round =>
    obtain ⟨j, x, D, cp, o, hj, hj2, rfl, rfl, rfl, x1, x2, hx, how, hen⟩ := hrel
    have HX := Lib.hid hx
    have HO := Lib.hid how
    have HE := Lib.hid hen
    clear hx how hen
    by_cases hlt : j < l.length ∧ j < 200
    · obtain ⟨hlt, h200⟩ := hlt
      have hltI : (j : Int) < (l.length : Int) := by omega
      have h200I : (j : Int) < 200 := by omega
      obtain ⟨y, hy⟩ : ∃ y, l[j]? = some y := ⟨_, List.getElem?_eq_getElem hlt⟩
      have HY := Lib.hid hy
      have HX1 := Lib.hid (show y.l.length ≤ 70 → ∀ z ∈ l.take (j + 1), z.l.length ≤ 70 from fun h z hz => by
        rw [List.take_add_one, hy] at hz
        rcases List.mem_append.1 hz with hz | hz
        · exact HX.out z hz
        · rw [List.mem_singleton.1 (show z ∈ [y] from hz)]
          exact h)
      have HYI := Lib.hid (HI.out y (List.mem_of_getElem? hy))
      obtain ⟨B, cb, C, cc, hv, hrim, hrk⟩ := HR.out.at_ hy
      obtain ⟨ad, rfl, hc⟩ := (HR.out.below_ HE.out.low).row hy hv
      have HV := Lib.hid hv
      have HRIM := Lib.hid hrim
      have c3 : wr.cell? ⟨(ad.add (j * 12)).block, (ad.add (j * 12)).off + 3, none⟩ = some (.slice B y.l.length cb) := hc 3 _ rfl
      clear hrim hrk hc hy hv
      go_wp2_with fail
      refine (light_im y.l wr B cb 70 8000 (HRIM.out.1.below' (by omega) HE.out.low) (Nat.le_trans HRIM.out.2.1 HRIM.out.2.2) (fun i hi => (HYI.out.ims i hi).2.1) (by omega)).mono ?_
      rintro e w2 ⟨b, rfl, hb4, hb2⟩
      have HB2 := Lib.hid hb2
      clear hb2
      cases b with
      | false =>
        go_wp2_with fail
        go_ret
        exact ⟨_, rfl, by simp, HE.out.low.trans (HB2.out.mono HE.out.low.size)⟩
      | true =>
      have HN3 := Lib.hid (show y.l.length ≤ 70 by have := hb4 rfl; omega)
      have HO2 := Lib.hid (HO.out.below_ HB2.out)
      have HE2 := Lib.hid (HE.out.below_ HB2.out)
      clear hb4 c3 HO HE HB2
      go_wp2_with fail
      go_loopw [4, 6] (fun t4 t6 wq => ∃ (k : Nat) (z : Int), k ≤ y.l.length ∧ t4 = .int .i64 z ∧ t6 = .int .i64 k ∧ -1 ≤ z ∧ z ≤ 30000 ∧ OwnS o 1 wq 29 8 (.slice D j cp) j (dcells ((dsOf l vs).take j)) ∧ Env o w wq) (fun _ t6 _ => y.l.length - (intOf t6).toNat)
      case atStart => exact ⟨0, x, by omega, rfl, rfl, x1, x2, HO2.out, HE2.out⟩
      case round =>
        obtain ⟨k, z, hk, rfl, rfl, z1, z2, how, hen⟩ := hrel
        have HO3 := Lib.hid how
        have HE3 := Lib.hid hen
        clear how hen HO2 HE2
        obtain ⟨ad', had', hc'⟩ := (HR.out.below_ HE3.out.low).row HY.out HV.out
        injection had' with had'
        subst had'
        have c3 : wr.cell? ⟨(ad.add (j * 12)).block, (ad.add (j * 12)).off + 3, none⟩ = some (.slice B y.l.length cb) := hc' 3 _ rfl
        have HC := Lib.hid hc'
        clear hc'
        have hk70 : k ≤ 70 := by have := HN3.out; omega
        by_cases hkl : k < y.l.length ∧ 0 ≤ z
        · obtain ⟨hkl, hz0⟩ := hkl
          have hklI : (k : Int) < (y.l.length : Int) := by omega
          obtain ⟨im, him⟩ : ∃ im, y.l[k]? = some im := ⟨_, List.getElem?_eq_getElem hkl⟩
          have hsz := (HYI.out.ims im (List.mem_of_getElem? him)).2.1
          unfold maxLen at hsz
          obtain ⟨ai, hai, y0, y1, y2⟩ := (HRIM.out.1.below' (by omega) HE3.out.low).imrow him
          subst hai
          clear him y0 y1
          go_wp2_with fail
          refine (rooms_any _ z (some ⟨wr.heap.size, 0, none⟩) 1 [(im.data.size : Int)] (Reads.newAt wr 3 1 1 _ #[.int .i64 im.data.size] wr.heap.size rfl rfl rfl) (by omega) (by intro n hn; rw [List.mem_singleton.1 hn]; omega) (show 1 ≤ 1000000 by decide)).mono ?_
          rintro e w3 ⟨rfl, rfl⟩
          have hr1 := room1_le (left := z) (n := (im.data.size : Int)) ⟨z1, by omega⟩ (by omega)
          have hr2 : room1 z (im.data.size : Int) ≤ 30000 := by unfold room1; split <;> omega
          have HO4 := Lib.hid (HO3.out.alloc (.cells #[.int .i64 im.data.size] 3))
          have HE4 := Lib.hid (HE3.out.alloc (.cells #[.int .i64 im.data.size] 3))
          rw [show roomN z [(im.data.size : Int)] = room1 z (im.data.size : Int) from rfl]
          generalize room1 z (im.data.size : Int) = Z at hr1 hr2 ⊢
          clear c3 y2
          go_wp2_with fail
          go_roundw
          case rel => exact ⟨k + 1, Z, by omega, by go_num, by go_num, hr1.1, hr2, HO4.out, HE4.out⟩
          case measure => simp [intOf]; omega
        · have d0 : wr.cell? ⟨(ad.add (j * 12)).block, (ad.add (j * 12)).off + 4, none⟩ = some (.int .i64 y.d.kind) := HC.out 4 _ rfl
          have d1 : wr.cell? ⟨(ad.add (j * 12)).block, (ad.add (j * 12)).off + 4 + 1, none⟩ = some (.int .i64 y.d.node) := HC.out 5 _ rfl
          have d2 : wr.cell? ⟨(ad.add (j * 12)).block, (ad.add (j * 12)).off + 4 + 2, none⟩ = some (.int .i64 y.d.at_) := HC.out 6 _ rfl
          have d3 : wr.cell? ⟨(ad.add (j * 12)).block, (ad.add (j * 12)).off + 4 + 3, none⟩ = some (.int .i64 y.d.n) := HC.out 7 _ rfl
          have d4 : wr.cell? ⟨(ad.add (j * 12)).block, (ad.add (j * 12)).off + 4 + 4, none⟩ = some (.int .u64 y.d.epoch) := HC.out 8 _ rfl
          have d5 : wr.cell? ⟨(ad.add (j * 12)).block, (ad.add (j * 12)).off + 4 + 5, none⟩ = some (.string y.d.data) := HC.out 9 _ rfl
          have d6 : wr.cell? ⟨(ad.add (j * 12)).block, (ad.add (j * 12)).off + 4 + 6, none⟩ = some (.slice C y.d.keep.length cc) := HC.out 10 _ rfl
          have d7 : wr.cell? ⟨(ad.add (j * 12)).block, (ad.add (j * 12)).off + 4 + 7, none⟩ = some (.bool y.d.own) := HC.out 11 _ rfl
          by_cases hkl2 : k < y.l.length
          · have hklI : (k : Int) < (y.l.length : Int) := by omega
            have hz0 : ¬ 0 ≤ z := fun h => hkl ⟨hkl2, h⟩
            have HO4 := Lib.hid (HO3.out.alloc (.cells #[.int .i64 y.d.kind, .int .i64 y.d.node, .int .i64 y.d.at_, .int .i64 y.d.n, .int .u64 y.d.epoch, .string y.d.data, .slice C y.d.keep.length cc, .bool y.d.own] 29))
            have HE4 := Lib.hid (HE3.out.alloc (.cells #[.int .i64 y.d.kind, .int .i64 y.d.node, .int .i64 y.d.at_, .int .i64 y.d.n, .int .u64 y.d.epoch, .string y.d.data, .slice C y.d.keep.length cc, .bool y.d.own] 29))
            go_wp2_with (at_builtin; refine wpList_append_S _ rfl (.tmp 51) (.tmp 57) 50 rfl 29 i0 _ 8 88 Tryz.underlying50 HI0.out HZ0.out HZ1.out HZ2.out rfl (by omega) (.slice D j cp) j (dcells ((dsOf l vs).take j)) rfl HO4.out (some ⟨wr.heap.size, 0, none⟩) 1 1 (y.d.cells (.slice C y.d.keep.length cc)) rfl (Reads.newAt wr 29 8 1 _ #[.int .i64 y.d.kind, .int .i64 y.d.node, .int .i64 y.d.at_, .int .i64 y.d.n, .int .u64 y.d.epoch, .string y.d.data, .slice C y.d.keep.length cc, .bool y.d.own] _ rfl rfl rfl) (by simp [Value.oneCell', DOp.cells]) (by unfold maxLen; omega) (by omega) ?_; intro v7 w7 hown7 hst7 hgr7 hat7)
            obtain ⟨A7, cap7, rfl, _, _⟩ := own_form' hown7
            refine ⟨⟨j + 1, z, A7, cap7, _, by omega, by omega, rfl, rfl, by go_num, z1, z2, HX1.out HN3.out, ?_, HE4.out.step hst7 (by unfold only; omega)⟩, ?_⟩
            · rw [dcells_succ (ds_get HY.out HV.out)]
              exact hown7
            · simp [intOf]; omega
          · have hklI : ¬ (k : Int) < (y.l.length : Int) := by omega
            have HO4 := Lib.hid (HO3.out.alloc (.cells #[.int .i64 y.d.kind, .int .i64 y.d.node, .int .i64 y.d.at_, .int .i64 y.d.n, .int .u64 y.d.epoch, .string y.d.data, .slice C y.d.keep.length cc, .bool y.d.own] 29))
            have HE4 := Lib.hid (HE3.out.alloc (.cells #[.int .i64 y.d.kind, .int .i64 y.d.node, .int .i64 y.d.at_, .int .i64 y.d.n, .int .u64 y.d.epoch, .string y.d.data, .slice C y.d.keep.length cc, .bool y.d.own] 29))
            go_wp2_with (at_builtin; refine wpList_append_S _ rfl (.tmp 51) (.tmp 57) 50 rfl 29 i0 _ 8 88 Tryz.underlying50 HI0.out HZ0.out HZ1.out HZ2.out rfl (by omega) (.slice D j cp) j (dcells ((dsOf l vs).take j)) rfl HO4.out (some ⟨wr.heap.size, 0, none⟩) 1 1 (y.d.cells (.slice C y.d.keep.length cc)) rfl (Reads.newAt wr 29 8 1 _ #[.int .i64 y.d.kind, .int .i64 y.d.node, .int .i64 y.d.at_, .int .i64 y.d.n, .int .u64 y.d.epoch, .string y.d.data, .slice C y.d.keep.length cc, .bool y.d.own] _ rfl rfl rfl) (by simp [Value.oneCell', DOp.cells]) (by unfold maxLen; omega) (by omega) ?_; intro v7 w7 hown7 hst7 hgr7 hat7)
            obtain ⟨A7, cap7, rfl, _, _⟩ := own_form' hown7
            refine ⟨⟨j + 1, z, A7, cap7, _, by omega, by omega, rfl, rfl, by go_num, z1, z2, HX1.out HN3.out, ?_, HE4.out.step hst7 (by unfold only; omega)⟩, ?_⟩
            · rw [dcells_succ (ds_get HY.out HV.out)]
              exact hown7
            · simp [intOf]; omega
    · by_cases h60 : l.length ≤ 60
      · have h60I : (l.length : Int) ≤ 60 := by omega
        obtain rfl : j = l.length := by omega
        have hltI : ¬ (l.length : Int) < (l.length : Int) := by omega
        have hall : l.take l.length = l := List.take_of_length_le (Nat.le_refl _)
        have hall2 : (dsOf l vs).take l.length = dsOf l vs := List.take_of_length_le (by rw [HDL.out]; exact Nat.le_refl _)
        rw [hall2] at HO
        have HXA := Lib.hid (show ∀ y ∈ l, y.l.length ≤ 70 from fun y hy => HX.out y (by rw [hall]; exact hy))
        clear hall hall2 HX
        by_cases h0 : 0 ≤ x
        · have hdl := HDL.out
          have HL8 := Lib.hid (light8_any wr D cp (dsOf l vs) (by rw [hdl]; exact Reads.of_own HO.out.1) (by rw [hdl]; omega) (fun z hz => by
            obtain ⟨k, hk, e⟩ := List.getElem_of_mem hz
            have hk2 : k < l.length := by rw [HDL.out] at hk; exact hk
            obtain ⟨y, hy⟩ : ∃ y, l[k]? = some y := ⟨_, List.getElem?_eq_getElem hk2⟩
            obtain ⟨B, cb, C, cc, hv, _, _⟩ := HR.out.at_ hy
            have e2 : (dsOf l vs)[k]? = some z := by rw [← e]; exact List.getElem?_eq_getElem hk
            rw [ds_get hy hv] at e2
            injection e2 with e2
            subst e2
            have hin := HI.out y (List.mem_of_getElem? hy)
            exact ⟨⟨C, cc, rfl⟩, hin.ddata, hin.dkeep.1⟩))
          rw [hdl] at HL8
          clear hdl
          go_wp2_with fail
          refine HL8.out.mono ?_
          rintro e w8 ⟨b, rfl, hb8, hw8⟩
          have HF := Lib.hid (show b = true → LightL l from fun h => ⟨h60, fun o ho => ⟨HXA.out o ho, by
            obtain ⟨k, hk, e⟩ := List.getElem_of_mem ho
            have hy : l[k]? = some o := by rw [← e]; exact List.getElem?_eq_getElem hk
            obtain ⟨B, cb, C, cc, hv, _, _⟩ := HR.out.at_ hy
            exact hb8 h _ (List.mem_of_getElem? (ds_get hy hv))⟩⟩)
          have HB8 := Lib.hid (HE.out.low.trans (hw8.mono HE.out.low.size))
          clear hb8 hw8
          go_wp2_with fail
          go_ret
          exact ⟨_, rfl, HF.out, HB8.out⟩
        · go_wp2_with fail
          go_ret
          exact ⟨_, rfl, by simp, HE.out.low⟩
      · have h60I : ¬ (l.length : Int) ≤ 60 := by omega
        by_cases hlt2 : j < l.length
        · have hltI : (j : Int) < (l.length : Int) := by omega
          have h200I : ¬ (j : Int) < 200 := by omega
          go_wp2_with fail
          go_ret
          exact ⟨_, rfl, by simp, HE.out.low⟩
        · have hltI : ¬ (j : Int) < (l.length : Int) := by omega
          go_wp2_with fail
          go_ret
          exact ⟨_, rfl, by simp, HE.out.low⟩
end Go.Proofs.YtjffjolopoejlaaGreatDoor

/- An append that also says: what else stood in the row's block, ahead of its end, stands. -/
namespace Go.Proofs.YtjffjolopoejlaaGreatDoor
open Go.RowKit

section
variable {P : Program} (w : World)
end
end Go.Proofs.YtjffjolopoejlaaGreatDoor

/- A book of lists: what all kinds share (printed by gen/mkbook.py). -/
namespace Go.Proofs.YtjffjolopoejlaaGreatDoor
open Go.RowKit

/-- the outer slice's cells are vs, of colour cO; the i-th inner one has S[i]'s length and cells, of colour cI + i -/
structure Kept (tO tE : TypeId) (sz cO cI : Nat) (o : Nat → Nat) (w : World) (v : Value) (S : List (Nat × List Value)) (vs : List Value) : Prop where
  len : vs.length = S.length
  outer : OwnW o cO w tO 1 v S.length vs
  inner : ∀ (i : Nat) u n xs, vs[i]? = some u → S[i]? = some (n, xs) → OwnW o (cI + i) w tE sz u n xs
section
variable {tO tE : TypeId} {sz cO cI : Nat} {o o' : Nat → Nat} {w w' : World} {v v' : Value} {S : List (Nat × List Value)} {vs : List Value}
theorem Kept.nil (tO tE : TypeId) (sz cO cI : Nat) (o : Nat → Nat) (w : World) : Kept tO tE sz cO cI o w (.slice none 0 0) [] [] :=
  ⟨rfl, OwnW.nil _ _ _ _ _, fun i u n xs hu _ => by simp at hu⟩
/-- the i-th list, as it is loaded -/
theorem Kept.at_ (h : Kept tO tE sz cO cI o w v S vs) {i : Nat} (hi : i < S.length) : ∃ ad cap A c u n xs, v = .slice (some ad) S.length cap ∧ S.length ≤ cap ∧ vs[i]? = some u ∧ S[i]? = some (n, xs) ∧ u = .slice A n c ∧ n ≤ c ∧ w.cell? (ad.add i) = some (.slice A n c) ∧ OwnW o (cI + i) w tE sz (.slice A n c) n xs := by
  obtain ⟨A0, cap, rfl, hc, _⟩ := h.outer.form
  have hl := h.len
  obtain ⟨ad, rfl, hcell⟩ := (OwnW.reads h.outer).2 (by omega)
  have hu : vs[i]? = some vs[i] := List.getElem?_eq_getElem (by omega)
  have hS : S[i]? = some (S[i].1, S[i].2) := List.getElem?_eq_getElem hi
  have hin := h.inner i _ _ _ hu hS
  obtain ⟨A, c, e, h1, _⟩ := hin.form
  exact ⟨ad, cap, A, c, vs[i], S[i].1, S[i].2, rfl, hc, hu, hS, e, h1, by rw [← e]; exact hcell i _ hu, by rw [← e]; exact hin⟩
end
def rowsF (r : Nat → List Value) (f n : Nat) : List Value := (List.range n).flatMap (fun k => r (f + k))
/-- the first i lists are marked, the others as they were -/
def putS (m : Nat → Nat → List Value) (i : Nat) (S : List (Nat × List Value)) : List (Nat × List Value) := S.mapIdx (fun j p => if j < i then (p.1, rowsF (m j) 0 p.1) else p)
section
variable {tO tE : TypeId} {sz cO cG cI : Nat} {r : Nat → Nat → List Value} {o o' o2 : Nat → Nat} {w w' w2 : World} {p : Nat} {cs : Array Value} {v V u l : Value} {S : List (Nat × List Value)} {vs us : List Value} {i n k : Nat}
end
end Go.Proofs.YtjffjolopoejlaaGreatDoor

/- The book: images alike, copied, lent (printed by gen/mkbook.py). -/
namespace Go.Proofs.YtjffjolopoejlaaGreatDoor
open Go.RowKit

end Go.Proofs.YtjffjolopoejlaaGreatDoor
