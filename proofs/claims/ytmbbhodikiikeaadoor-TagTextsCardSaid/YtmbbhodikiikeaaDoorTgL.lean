/- Tags as text: what tag a text is. Conditions: none. -/
import Derived.Test.YtmbbhodikiikeaaDoorNumL
import Derived.Test.YtmbbhodikiikeaaDoorTagRC
namespace Go.Proofs.YtmbbhodikiikeaaDoor
open Go.Sx Go.Lib
set_option maxRecDepth 100000

def svT : Bool → ByteArray | true => ⟨#[115]⟩ | false => ⟨#[99]⟩
def dvT : Bool → ByteArray | true => ⟨#[33, 46]⟩ | false => ⟨#[46]⟩
def tagT (t : TagV) : ByteArray := svT t.s ++ numS t.pcp ++ dvT t.dei ++ numS t.vid
def svL : Bool → UInt8 | true => 115 | false => 99
def dvL : Bool → List UInt8 | true => [33] | false => []
def hdL (t : TagV) : List UInt8 := svL t.s :: UInt8.ofNat (48 + t.pcp.toNat) :: dvL t.dei
theorem tagT_list {t : TagV} (h : tagP t) : (tagT t).data.toList = hdL t ++ 46 :: decDigits t.vid.toNat := by
  obtain ⟨h1, h2, h3, h4⟩ := h
  simp only [tagT, ByteArray.data_append, Array.toList_append, numS_one h1 (show t.pcp < 10 by omega), numS_list h3, hdL]
  cases t.s <;> cases t.dei <;> rfl
theorem dig_ne {d : Nat} (h : d < 10) (c : UInt8) (hc : ¬ (48 ≤ c.toNat ∧ c.toNat ≤ 57)) : UInt8.ofNat (48 + d) ≠ c := by
  rintro rfl
  rw [UInt8.toNat_ofNat'] at hc
  omega
theorem hdL_free {t : TagV} (h : tagP t) : (46 : UInt8) ∉ hdL t := by
  obtain ⟨h1, h2, h3, h4⟩ := h
  have := dig_ne (d := t.pcp.toNat) (by omega) 46 (by decide)
  have e1 : svL t.s ≠ 46 := by cases t.s <;> decide
  have e2 : (46 : UInt8) ∉ dvL t.dei := by cases t.dei <;> decide
  simp only [hdL, List.mem_cons, not_or]
  exact ⟨fun h => e1 h.symm, fun h => this h.symm, e2⟩
theorem hdL_inj {t u : TagV} (ht : tagP t) (hu : tagP u) (h : hdL t = hdL u) : t.s = u.s ∧ t.pcp = u.pcp ∧ t.dei = u.dei := by
  obtain ⟨h1, h2, h3, h4⟩ := ht
  obtain ⟨k1, k2, k3, k4⟩ := hu
  simp only [hdL, List.cons.injEq] at h
  obtain ⟨e1, e2, e3⟩ := h
  refine ⟨?_, ?_, ?_⟩
  · revert e1
    cases t.s <;> cases u.s <;> simp [svL]
  · have := congrArg UInt8.toNat e2
    rw [UInt8.toNat_ofNat', UInt8.toNat_ofNat'] at this
    omega
  · revert e3
    cases t.dei <;> cases u.dei <;> simp [dvL]
theorem tagT_inj {t u : TagV} (ht : tagP t) (hu : tagP u) (h : tagT t = tagT u) : t = u := by
  have e := congrArg (fun s : ByteArray => Lib.cut s.data.toList [46]) h
  rw [tagT_list ht, tagT_list hu, cut_at (hdL_free ht), cut_at (hdL_free hu)] at e
  simp only [Prod.mk.injEq, and_true] at e
  obtain ⟨a, b, c⟩ := hdL_inj ht hu e.1
  have d := dec_inj e.2
  have h3 := ht.2.2.1
  have k3 := hu.2.2.1
  cases t; cases u
  simp only [TagV.mk.injEq] at *
  exact ⟨a, b, c, by omega⟩
open Classical in
/-- The tag that a text is, and what is wrong. -/
noncomputable def parT (s : ByteArray) : TagV × Int := if h : ∃ t : TagV, tagP t ∧ tagT t = s then (Classical.choose h, 0) else (TagV.zero, 3)
theorem parT_hit {t : TagV} {s : ByteArray} (h1 : tagP t) (h2 : tagT t = s) : parT s = (t, 0) := by
  have h : ∃ t : TagV, tagP t ∧ tagT t = s := ⟨t, h1, h2⟩
  have hc := Classical.choose_spec h
  rw [parT, dif_pos h, tagT_inj hc.1 h1 (hc.2.trans h2.symm)]
theorem parT_miss {s : ByteArray} (h : ∀ t : TagV, tagP t → tagT t ≠ s) : parT s = (TagV.zero, 3) := by
  rw [parT, dif_neg]
  rintro ⟨t, h1, h2⟩
  exact h t h1 h2

/-- strings.Cut at a byte. -/
def cutS (c : UInt8) (s : ByteArray) : ByteArray × ByteArray × Bool := (⟨(Lib.cut s.data.toList [c]).1.toArray⟩, ⟨(Lib.cut s.data.toList [c]).2.1.toArray⟩, (Lib.cut s.data.toList [c]).2.2)
theorem cutS_size (c : UInt8) (s : ByteArray) : (cutS c s).1.size ≤ s.size ∧ (cutS c s).2.1.size ≤ s.size := by
  have hs : s.data.toList.length = s.size := by rw [Array.length_toList]; rfl
  have e1 : (cutS c s).1.size = (Lib.cut s.data.toList [c]).1.length := by show ((Lib.cut s.data.toList [c]).1.toArray).size = _; simp
  have e2 : (cutS c s).2.1.size = (Lib.cut s.data.toList [c]).2.1.length := by show ((Lib.cut s.data.toList [c]).2.1.toArray).size = _; simp
  rw [e1, e2, ← hs, Lib.cut]
  split
  · simp only [List.length_take, List.length_drop]; omega
  · simp
theorem cutS_of {c : UInt8} {s : ByteArray} {p l : List UInt8} (h : s.data.toList = p ++ c :: l) (hp : c ∉ p) : cutS c s = (⟨p.toArray⟩, ⟨l.toArray⟩, true) := by
  rw [cutS, h, cut_at hp]
theorem cutS_tag {t : TagV} (h : tagP t) : cutS 46 (tagT t) = (⟨(hdL t).toArray⟩, numS t.vid, true) := by
  rw [cutS_of (tagT_list h) (hdL_free h)]
  have : numS t.vid = ⟨(decDigits t.vid.toNat).toArray⟩ := by
    apply ByteArray.ext
    apply Array.ext'
    rw [numS_list h.2.2.1]
  rw [this]
/-- What is made of what stands ahead of the point. -/
def tagH (hd : ByteArray) (v : Int) : TagV := ⟨(((hd.data.toList.getD 0 0).toNat : Int) == 115), IntKind.i64.wrap (IntKind.i64.wrap ((hd.data.toList.getD 1 0).toNat : Int) - 48), ((hd.extract 2 hd.size).toList == (⟨#[33]⟩ : ByteArray).toList), v⟩
theorem tagH_back {t : TagV} (h : tagP t) : tagH ⟨(hdL t).toArray⟩ t.vid = t := by
  obtain ⟨s, p, d, v⟩ := t
  obtain ⟨h1, h2, h3, h4⟩ := h
  dsimp only at h1 h2 h3 h4
  have e1 : ((((hdL ⟨s, p, d, v⟩).toArray.toList.getD 0 0).toNat : Int) == 115) = s := by
    show (((svL s).toNat : Int) == 115) = s
    cases s <;> decide
  have e2 : IntKind.i64.wrap (IntKind.i64.wrap ((UInt8.ofNat (48 + p.toNat)).toNat : Int) - 48) = p := by
    rw [UInt8.toNat_ofNat', wrap_id (a := (((48 + p.toNat) % 2 ^ 8 : Nat) : Int)) (by omega) (by omega), wrap_id (by omega) (by omega)]
    omega
  have e3 : (((⟨(hdL ⟨s, p, d, v⟩).toArray⟩ : ByteArray).extract 2 (⟨(hdL ⟨s, p, d, v⟩).toArray⟩ : ByteArray).size).toList == (⟨#[33]⟩ : ByteArray).toList) = d := by
    rw [str_beq]
    have : (⟨(hdL ⟨s, p, d, v⟩).toArray⟩ : ByteArray).extract 2 (⟨(hdL ⟨s, p, d, v⟩).toArray⟩ : ByteArray).size = ⟨(dvL d).toArray⟩ := by
      apply ByteArray.ext
      apply Array.ext'
      rw [Lib.extract_to_end]
      rfl
    rw [this]
    cases d <;> decide
  simp only [tagH, TagV.mk.injEq, and_true]
  exact ⟨e1, e2, e3⟩
end Go.Proofs.YtmbbhodikiikeaaDoor
