/- Frames as bytes, plain: what is put is got; cut by its last byte it is none. -/
import Derived.Test.YtoploimpfhnanaaDoorSumP
import Derived.Test.YtoploimpfhnanaaDoorSessB
namespace Go.Proofs.YtoploimpfhnanaaDoor
open Go.RowKit

def Fr.bad (f : Fr) : Prop := f.From < 0 ∨ f.To < 0 ∨ f.Mine < 0 ∨ f.Yours < 0 ∨ f.Seq < 0 ∨ f.Ack < 0 ∨ 65535 < f.From ∨ 65535 < f.To
instance (f : Fr) : Decidable f.bad := inferInstanceAs (Decidable (_ ∨ _))
def Fr.wrongE (f : Fr) : Int := if f.bad then 1 else if 3000 < f.Data.size then 2 else 0
def Fr.head (f : Fr) : List UInt8 := le f.From.toNat 2 ++ (le f.To.toNat 2 ++ (le f.Mine.toNat 8 ++ (le f.Yours.toNat 8 ++ (le f.Seq.toNat 8 ++ (le f.Ack.toNat 8 ++ le (if f.Has then 1 else 0) 1)))))
def Fr.body (f : Fr) : List UInt8 := f.head ++ (le f.Data.size 2 ++ f.Data.data.toList)
def Fr.putS (f : Fr) : ByteArray := if f.wrongE = 0 then str (sealL f.body) else ⟨#[]⟩

def fR1 (s : ByteArray) : Rd := (⟨s, 0⟩ : Rd).numR 2
def fR2 (s : ByteArray) : Rd := (fR1 s).numR 2
def fR3 (s : ByteArray) : Rd := (fR2 s).numR 8
def fR4 (s : ByteArray) : Rd := (fR3 s).numR 8
def fR5 (s : ByteArray) : Rd := (fR4 s).numR 8
def fR6 (s : ByteArray) : Rd := (fR5 s).numR 8
def fR7 (s : ByteArray) : Rd := (fR6 s).flagR
def fR8 (s : ByteArray) : Rd := (fR7 s).textR 3000
def getF (s : ByteArray) : Fr := ⟨(⟨s, 0⟩ : Rd).numV 2, (fR1 s).numV 2, wrap64 ((fR2 s).numV 8), wrap64 ((fR3 s).numV 8), wrap64 ((fR4 s).numV 8), wrap64 ((fR5 s).numV 8), (fR7 s).textV 3000, (fR6 s).flagV⟩
def goodF (s b : ByteArray) : Prop := (getF s).wrongE = 0 ∧ str (sealL (getF s).body) = b
instance (s b : ByteArray) : Decidable (goodF s b) := inferInstanceAs (Decidable (_ ∧ _))
def rest4 (b : ByteArray) : ByteArray := b.extract 4 b.size
def frE (s b : ByteArray) : Int := if (fR8 s).endV ≠ 0 then (fR8 s).endV else if goodF s b then 0 else 4
def frF (s b : ByteArray) : Fr := if (fR8 s).endV = 0 ∧ goodF s b then getF s else Fr.zero
def gotFE (b : ByteArray) : Int := if openE b.data.toList ≠ 0 then openE b.data.toList else frE (rest4 b) b
def gotF (b : ByteArray) : Fr := if openE b.data.toList ≠ 0 then Fr.zero else frF (rest4 b) b

theorem wrap_small {n : Int} (h : 0 ≤ n) (h2 : n ≤ 9223372036854775807) : wrap64 (n.toNat : Int) = n := by
  have e : ((n.toNat : Nat) : Int) = n := by omega
  rw [e]
  unfold wrap64
  omega
theorem wrongE_zero {f : Fr} (h : f.wrongE = 0) : ¬ f.bad ∧ f.Data.size ≤ 3000 := by
  unfold Fr.wrongE at h
  split at h
  · cases h
  · split at h
    · cases h
    · exact ⟨by assumption, by omega⟩
theorem get_body {f : Fr} (h : f.wrongE = 0) (hi : f.Mine ≤ 9223372036854775807 ∧ f.Yours ≤ 9223372036854775807 ∧ f.Seq ≤ 9223372036854775807 ∧ f.Ack ≤ 9223372036854775807) :
    getF (str f.body) = f ∧ (fR8 (str f.body)).endV = 0 := by
  obtain ⟨hb, hd⟩ := wrongE_zero h
  unfold Fr.bad at hb
  have e : f.body = le f.From.toNat 2 ++ (le f.To.toNat 2 ++ (le f.Mine.toNat 8 ++ (le f.Yours.toNat 8 ++ (le f.Seq.toNat 8 ++ (le f.Ack.toNat 8 ++ (le (if f.Has then 1 else 0) 1 ++ (le f.Data.size 2 ++ (f.Data.data.toList ++ [])))))))) := by simp [Fr.body, Fr.head]
  obtain ⟨a1, b1⟩ := num_app (v := f.From.toNat) (n := 2) ⟨by omega, by omega, by simp; omega⟩ (le f.To.toNat 2 ++ (le f.Mine.toNat 8 ++ (le f.Yours.toNat 8 ++ (le f.Seq.toNat 8 ++ (le f.Ack.toNat 8 ++ (le (if f.Has then 1 else 0) 1 ++ (le f.Data.size 2 ++ (f.Data.data.toList ++ []))))))))
  obtain ⟨a2, b2⟩ := num_app (v := f.To.toNat) (n := 2) ⟨by omega, by omega, by simp; omega⟩ (le f.Mine.toNat 8 ++ (le f.Yours.toNat 8 ++ (le f.Seq.toNat 8 ++ (le f.Ack.toNat 8 ++ (le (if f.Has then 1 else 0) 1 ++ (le f.Data.size 2 ++ (f.Data.data.toList ++ [])))))))
  obtain ⟨a3, b3⟩ := num_app (v := f.Mine.toNat) (n := 8) ⟨by omega, by omega, by simp; omega⟩ (le f.Yours.toNat 8 ++ (le f.Seq.toNat 8 ++ (le f.Ack.toNat 8 ++ (le (if f.Has then 1 else 0) 1 ++ (le f.Data.size 2 ++ (f.Data.data.toList ++ []))))))
  obtain ⟨a4, b4⟩ := num_app (v := f.Yours.toNat) (n := 8) ⟨by omega, by omega, by simp; omega⟩ (le f.Seq.toNat 8 ++ (le f.Ack.toNat 8 ++ (le (if f.Has then 1 else 0) 1 ++ (le f.Data.size 2 ++ (f.Data.data.toList ++ [])))))
  obtain ⟨a5, b5⟩ := num_app (v := f.Seq.toNat) (n := 8) ⟨by omega, by omega, by simp; omega⟩ (le f.Ack.toNat 8 ++ (le (if f.Has then 1 else 0) 1 ++ (le f.Data.size 2 ++ (f.Data.data.toList ++ []))))
  obtain ⟨a6, b6⟩ := num_app (v := f.Ack.toNat) (n := 8) ⟨by omega, by omega, by simp; omega⟩ (le (if f.Has then 1 else 0) 1 ++ (le f.Data.size 2 ++ (f.Data.data.toList ++ [])))
  obtain ⟨a7, b7⟩ := flag_app f.Has (le f.Data.size 2 ++ (f.Data.data.toList ++ []))
  obtain ⟨a8, b8⟩ := text_app f.Data [] (room := 3000) (by omega) (by omega)
  simp only [show (8 : Int).toNat = 8 from rfl, show (2 : Int).toNat = 2 from rfl] at a1 b1 a2 b2 a3 b3 a4 b4 a5 b5 a6 b6
  unfold getF fR8 fR7 fR6 fR5 fR4 fR3 fR2 fR1
  rw [e, a1, b1, a2, b2, a3, b3, a4, b4, a5, b5, a6, b6, a7, b7, a8, b8, end_nil, wrap_small (by omega) (by omega), wrap_small (by omega) (by omega), wrap_small (by omega) (by omega), wrap_small (by omega) (by omega)]
  refine ⟨?_, rfl⟩
  rw [show ((f.From.toNat : Nat) : Int) = f.From by omega, show ((f.To.toNat : Nat) : Int) = f.To by omega]
theorem rest_seal (l : List UInt8) : rest4 (str (sealL l)) = str l := by
  refine str_ext ?_
  unfold rest4
  rw [extract_list, str_list, str_list, str_size, List.take_of_length_le (Nat.le_refl _), seal_drop]
/-- what is put is got -/
theorem frame_back {f : Fr} (h : f.wrongE = 0) (hi : f.Mine ≤ 9223372036854775807 ∧ f.Yours ≤ 9223372036854775807 ∧ f.Seq ≤ 9223372036854775807 ∧ f.Ack ≤ 9223372036854775807) :
    gotF (str (sealL f.body)) = f ∧ gotFE (str (sealL f.body)) = 0 := by
  obtain ⟨a, b⟩ := get_body h hi
  have o := open_seal f.body
  have g : goodF (str f.body) (str (sealL f.body)) := by unfold goodF; rw [a]; exact ⟨h, rfl⟩
  unfold gotF gotFE
  rw [str_list, o, if_neg (by simp), if_neg (by simp), rest_seal]
  unfold frF frE
  rw [if_pos ⟨b, g⟩, if_neg (by simpa using b), if_pos g]
  exact ⟨a, rfl⟩
theorem fhead_len (f : Fr) : f.head.length = 37 := by simp [Fr.head, le_len]
theorem body_len (f : Fr) : f.body.length = 39 + f.Data.size := by
  have : f.Data.data.toList.length = f.Data.size := rfl
  simp only [Fr.body, List.length_append, fhead_len, le_len]
  omega
theorem body_cut {f x : Fr} (hf : f.Data.size ≤ 3000) (hx : x.Data.size ≤ 3000) : x.body ≠ f.body.take (f.body.length - 1) := by
  intro e
  have l1 := body_len f
  have l2 := body_len x
  have l3 : x.body.length = f.body.length - 1 := by rw [e, List.length_take]; omega
  have c : (x.body.take 39).drop 37 = (f.body.take 39).drop 37 := by rw [e, List.take_take, Nat.min_eq_left (by omega)]
  have g : ∀ y : Fr, (y.body.take 39).drop 37 = le y.Data.size 2 := by
    intro y
    have e1 : y.body = y.head ++ (le y.Data.size 2 ++ y.Data.data.toList) := rfl
    rw [List.drop_take, e1, List.drop_append_of_le_length (by rw [fhead_len]; exact Nat.le_refl _), List.drop_of_length_le (by rw [fhead_len]; exact Nat.le_refl _), List.nil_append, List.take_append_of_le_length (by rw [le_len]; exact Nat.le_refl _), List.take_of_length_le (by rw [le_len]; exact Nat.le_refl _)]
  rw [g, g] at c
  have c2 := congrArg lev c
  rw [lev_le, lev_le, Nat.mod_eq_of_lt (by simp; omega), Nat.mod_eq_of_lt (by simp; omega)] at c2
  omega
theorem frame_cut {f : Fr} (h : f.wrongE = 0) : gotFE ((str (sealL f.body)).extract 0 ((str (sealL f.body)).size - 1)) ≠ 0 := by
  unfold gotFE
  split
  · assumption
  · unfold frE
    split
    · assumption
    · rw [if_neg]
      · decide
      · rintro ⟨h1, h2⟩
        generalize getF _ = x at h1 h2
        have h3 := congrArg (fun b : ByteArray => b.data.toList.drop 4) h2
        simp only [str_list, extract_list, List.drop_zero] at h3
        rw [seal_drop, List.drop_take, seal_drop, str_size, seal_len, show 4 + f.body.length - 1 - 4 = f.body.length - 1 by omega] at h3
        exact body_cut (wrongE_zero h).2 (wrongE_zero h1).2 h3
theorem frame_set {f : Fr} {k : Nat} (hk : k < (sealL f.body).length) {b : UInt8} (hb : b ≠ (sealL f.body)[k]) : gotFE (str ((sealL f.body).set k b)) = 6 := by
  have h := open_set f.body hk hb
  unfold gotFE
  rw [str_list, if_pos (by rw [h]; decide), h]
end Go.Proofs.YtoploimpfhnanaaDoor
