/-
  The contract of Show: at every text.
-/
import Derived.Test.YtofdhhemdoodaaaDoorNmHex
import Derived.Test.YtofdhhemdoodaaaDoorNmCodec
import Derived.Test.YtofdhhemdoodaaaDoorNmWhole
import Derived.WalkSmall
import Derived.Lib.OthersKept
namespace Go.Proofs.YtofdhhemdoodaaaDoor.Nm
open Go.RowKit

/-- A piece of a text, shown. -/
def showP (p : Nat × List UInt8) : List UInt8 :=
  if isBad p then [92, 120] ++ hex ((p.2.headD 0).toNat / 16) ++ hex ((p.2.headD 0).toNat % 16)
  else if p.1 = 92 then [92, 92]
  else if 32 ≤ p.1 ∧ p.1 ≤ 126 then [UInt8.ofNat p.1]
  else [92, 117] ++ hex p.1 ++ [59]
/-- A text, shown. -/
def shown (l : List UInt8) : List UInt8 := (seg l).flatMap showP

theorem shown_nil : shown [] = [] := rfl
theorem shown_cons (l : List UInt8) (h : l ≠ []) : shown l = showP ((dec l).1, l.take (dec l).2) ++ shown (l.drop (dec l).2) := by
  rw [shown, seg_cons l h, List.flatMap_cons]; rfl

theorem hexF_len : ∀ f u, (hexF f u).length ≤ f
  | 0, _ => by simp [hexF]
  | f + 1, u => by
    by_cases h : u < 16
    · rw [hexF_small _ _ h]; simp
    · rw [hexF_step _ _ h, List.length_append]; have := hexF_len f (u / 16); simp; omega
theorem hex_len (u : Nat) : (hex u).length ≤ 6 := hexF_len 6 u
theorem hex_small {u : Nat} (h : u < 16) : hex u = [hd u] := hexF_small 5 u h

theorem showP_len (p : Nat × List UInt8) : (showP p).length ≤ 14 := by
  unfold showP
  have h1 := hex_len ((p.2.headD 0).toNat / 16)
  have h2 := hex_len ((p.2.headD 0).toNat % 16)
  have h3 := hex_len p.1
  split
  · simp only [List.length_append, List.length_cons, List.length_nil]; omega
  · split
    · simp
    · split
      · simp
      · simp only [List.length_append, List.length_cons, List.length_nil]; omega

theorem and15i (q : Nat) (h : q < 256) : bits BinOp.and IntKind.i64 (q : Int) 15 = ((q % 16 : Nat) : Int) := by
  have : ∀ q : Fin 256, bits BinOp.and IntKind.i64 (q.1 : Int) 15 = ((q.1 % 16 : Nat) : Int) := by decide +kernel
  exact this ⟨q, h⟩

theorem fmt16 (x : Int) (n : Nat) (hx : x = (n : Int)) (w : World) (h1 : n < 16777216) (h : Tz w) :
    Calls Tryd.prog 38 #[.int .i64 x, .int .i64 16] w fun e w' => ∃ H : ByteArray, e = .returned (.string H) ∧ H.size ≤ 6 ∧ Hid (H.data.toList = hex n) ∧ Below w.heap.size w w' := by
  subst hx
  refine (formatInt16z (n : Int) w (by omega) (by omega) h).mono ?_
  rintro e w' ⟨rfl, hb⟩
  rw [Int.toNat_natCast]
  refine ⟨_, rfl, ?_, Lib.hid rfl, hb⟩
  have := hex_len n
  rw [Lib.size_eq]; simpa using this

set_option maxHeartbeats 4000000 in
set_option maxRecDepth 100000 in
theorem show_any (s : ByteArray) (w : World) (hZ : Tz w) (hs : s.size ≤ 140737488355328) :
    Calls Tryd.prog 26 #[.string s] w fun e w' => e = .returned (.string ⟨(shown s.data.toList).toArray⟩) ∧ Below w.heap.size w w' := by
  have hsz := Lib.size_eq s
  have HSZ := Lib.hid hsz
  clear hsz
  go_enter Tryd.func26, Tryd.ntmps26
  go_wp2
  go_loopw [3] (fun s3 wr => ∃ (pos : Nat) (P : ByteArray), s3 = .string P ∧ pos ≤ s.size ∧ P.size ≤ 14 * pos ∧ P.data.toList ++ shown (s.data.toList.drop pos) = shown s.data.toList ∧ wr.heap[w.heap.size]? = some (.stringIter s pos) ∧ Below w.heap.size w wr) (fun _ w' => s.size - w'.iterPos w.heap.size)
  case atStart =>
    refine ⟨0, ⟨#[]⟩, rfl, by omega, by simp [ByteArray.size], rfl, ?_, (Below.refl _ _).alloc (Nat.le_refl _) _⟩
    show (w.heap.push _)[w.heap.size]? = _
    simp
  case round =>
    obtain ⟨pos, P, rfl, hps, hPs, hP, hit, hbw⟩ := hrel
    by_cases hlt : pos < s.size
    · have hne := ne_of_lt (HSZ.out ▸ hlt : pos < s.data.toList.length)
      have hnx : ∀ ty, (Instr.next (.pointer (some ⟨w.heap.size, 0, none⟩)) true ty).run Tryd.prog wr = _ := fun ty => Lib.run_next_any_at wr w.heap.size s pos ty hit hlt
      rw [decode_drop] at hnx
      have hwd := dec_width _ hne
      have hdb := dec_bound (s.data.toList.drop pos)
      rw [shown_cons _ hne, List.drop_drop] at hP
      have hln : (s.data.toList.drop pos).length = s.size - pos := by rw [List.length_drop]; have := HSZ.out; omega
      rw [hln] at hwd
      obtain ⟨W, hWd⟩ : ∃ W, wr.iterAt w.heap.size s (pos + (dec (s.data.toList.drop pos)).2) = W := ⟨_, rfl⟩
      have hitW : W.heap[w.heap.size]? = some (.stringIter s (pos + (dec (s.data.toList.drop pos)).2)) := hWd ▸ Lib.iterAt_heap wr w.heap.size s pos _ hit
      have hbwW : Below w.heap.size w W := hWd ▸ Lib.below_iterAt hbw (k := w.heap.size) (Nat.le_refl _) s _
      have hZW := hZ.below hbwW
      have hszW : w.heap.size < W.heap.size := (Array.getElem?_eq_some_iff.1 hitW).1
      rw [hWd] at hnx
      have hpos0 : wr.iterPos w.heap.size = pos := iterPos_of hit
      have hsl := showP_len ((dec (s.data.toList.drop pos)).1, (s.data.toList.drop pos).take (dec (s.data.toList.drop pos)).2)
      have hext : (s.extract pos s.size).data.toList = s.data.toList.drop pos := by
        rw [Lib.extract_data]; exact List.take_of_length_le (by rw [hln]; omega)
      have hpf := fun w => Tryd.strings_HasPrefix (s.extract pos s.size) ⟨#[239, 191, 189]⟩ w
      rw [hext] at hpf
      have hib := isBad_head _ hne
      have hby : (s.data.toList.drop pos).headD 0 = s[pos] := by
        have hp' : pos < s.data.toList.length := by rw [← HSZ.out]; exact hlt
        rw [List.drop_eq_getElem_cons hp']; exact (Array.getElem_toList (xs := s.data) hlt)
      by_cases h1 : (dec (s.data.toList.drop pos)).1 = 65533 ∧ (dec (s.data.toList.drop pos)).2 = 1
      · have hsp : showP ((dec (s.data.toList.drop pos)).1, (s.data.toList.drop pos).take (dec (s.data.toList.drop pos)).2) = [92, 120] ++ hex (s[pos].toNat / 16) ++ hex (s[pos].toNat % 16) := by
          rw [showP, hib, h1.1, h1.2, ← hby]
          cases hq : s.data.toList.drop pos with
          | nil => exact absurd hq hne
          | cons x y => rfl
        rw [hsp] at hP
        have hbad := bad_iff _ h1.1
        rw [h1.2] at hbad
        rw [show (⟨#[239, 191, 189]⟩ : ByteArray).data.toList = [239, 191, 189] from rfl, hbad] at hpf
        rw [h1.1] at hnx
        rw [h1.2] at hP hitW hwd
        have hb256 := s[pos].toNat_lt
        have e15 := and15i s[pos].toNat hb256
        have E15 := Lib.hid e15
        clear e15
        have HP := Lib.hid hP; have HIT := Lib.hid hitW; have HPF := Lib.hid hpf; have HP0 := Lib.hid hpos0
        clear hP hitW hpf hpos0 hsp hbad h1 hib hext hby hWd hit hne hln hbw
        go_wp2_with fail
        refine (HPF.out _).mono ?_
        rintro e w1 ⟨rfl, hw1⟩
        rw [hw1]
        go_wp2_with fail
        refine (fmt16 _ (s[pos].toNat / 16) (by omega) W (by omega) hZW).mono ?_
        rintro e w2 ⟨H1, rfl, hz1, hH1, hb2⟩
        have hszW2 := Nat.lt_of_lt_of_le hszW hb2.size
        have hZW2 := hZW.below hb2
        go_wp2_with fail
        refine (fmt16 _ (s[pos].toNat % 16) E15.out w2 (by omega) hZW2).mono ?_
        rintro e w3 ⟨H2, rfl, hz2, hH2, hb3⟩
        have hbwW3 := (hbwW.trans (hb2.mono (by omega))).trans (hb3.mono (by omega))
        have hkW3 : w3.heap[w.heap.size]? = some (.stringIter s (pos + 1)) := ((hb2.trans (hb3.mono hb2.size)).block _ hszW).trans HIT.out
        have HK := Lib.hid hkW3
        clear hkW3
        go_wp2
        go_roundw
        case rel =>
          refine ⟨pos + 1, _, rfl, by omega, ?_, ?_, HK.out, hbwW3⟩
          · simp only [ByteArray.size_append]; rw [show (⟨#[92, 120]⟩ : ByteArray).size = 2 from rfl]; omega
          · rw [← HP.out]
            simp only [ByteArray.data_append, Array.toList_append, hH1.out, hH2.out, List.append_assoc, List.cons_append, List.nil_append]
        case measure =>
          rw [iterPos_of HK.out, HP0.out]; omega
      · have hnb : ((decide ((dec (s.data.toList.drop pos)).1 = 65533)) && (decide ((dec (s.data.toList.drop pos)).2 = 1))) = false := by
          by_cases p1 : (dec (s.data.toList.drop pos)).1 = 65533
          · by_cases p2 : (dec (s.data.toList.drop pos)).2 = 1
            · exact absurd ⟨p1, p2⟩ h1
            · simp [p2]
          · simp [p1]
        generalize hr : (dec (s.data.toList.drop pos)).1 = r at *
        generalize hwid : (dec (s.data.toList.drop pos)).2 = wd at *
        have hsp : showP (r, (s.data.toList.drop pos).take wd) = if r = 92 then [92, 92] else if 32 ≤ r ∧ r ≤ 126 then [UInt8.ofNat r] else [92, 117] ++ hex r ++ [59] := by
          rw [showP, hib, if_neg]
          intro h
          simp at h
          exact h1 h
        rw [hsp] at hP
        rw [show (⟨#[239, 191, 189]⟩ : ByteArray).data.toList = [239, 191, 189] from rfl] at hpf
        have hpfT : r = 65533 → Lib.hasPrefix (s.data.toList.drop pos) [239, 191, 189] = true := by
          intro e
          have := bad_iff (s.data.toList.drop pos) (hr.trans e)
          rw [this, hwid]
          simp [e] at hnb
          simpa using hnb
        have HIT := Lib.hid hitW; have HP0 := Lib.hid hpos0; have HNB := Lib.hid hnb; have HW := Lib.hid hwid; have HR := Lib.hid hr; have HPT := Lib.hid hpfT
        clear hnb hwid hr hitW hpos0 hsp h1 hib hext hby hWd hit hne hln hbw hpfT hsl
        have HDB := Lib.hid hdb
        by_cases h92 : r = 92
        · subst h92
          have HP := Lib.hid hP
          clear hP hpf
          go_wp2
          go_roundw
          case rel =>
            refine ⟨pos + wd, _, rfl, by omega, ?_, ?_, HIT.out, hbwW⟩
            · simp only [ByteArray.size_append]; rw [show (⟨#[92, 92]⟩ : ByteArray).size = 2 from rfl]; omega
            · rw [← HP.out]
              simp only [ByteArray.data_append, Array.toList_append, List.append_assoc, if_true]
          case measure =>
            rw [iterPos_of HIT.out, HP0.out]; omega
        · by_cases h65 : r = 65533
          · rw [HPT.out h65] at hpf
            subst h65
            rw [if_neg (by decide), if_neg (by decide)] at hP
            have HP := Lib.hid hP; have HPF := Lib.hid hpf
            clear hP hpf
            go_wp2_with fail
            refine (HPF.out _).mono ?_
            rintro e w1 ⟨rfl, hw1⟩
            rw [hw1]
            go_wp2_with fail
            refine (fmt16 _ 65533 (by omega) W (by omega) hZW).mono ?_
            rintro e w2 ⟨H1, rfl, hz1, hH1, hb2⟩
            have hbwW2 := hbwW.trans (hb2.mono (by omega))
            have hkW2 : w2.heap[w.heap.size]? = some (.stringIter s (pos + wd)) := (hb2.block _ hszW).trans HIT.out
            have HK := Lib.hid hkW2
            clear hkW2
            go_wp2
            go_roundw
            case rel =>
              refine ⟨pos + wd, _, rfl, by omega, ?_, ?_, HK.out, hbwW2⟩
              · simp only [ByteArray.size_append]; rw [show (⟨#[92, 117]⟩ : ByteArray).size = 2 from rfl, show (⟨#[59]⟩ : ByteArray).size = 1 from rfl]; omega
              · rw [← HP.out]
                simp only [ByteArray.data_append, Array.toList_append, hH1.out, List.append_assoc]
            case measure =>
              rw [iterPos_of HK.out, HP0.out]; omega
          · have d65 : ((r : Int) == 65533) = false := by simp; omega
            have d92 : ((r : Int) == 92) = false := by simp; omega
            clear hpf
            rw [if_neg h92] at hP
            by_cases hpr : 32 ≤ r ∧ r ≤ 126
            · rw [if_pos hpr] at hP
              have HP := Lib.hid hP
              have HPR := Lib.hid hpr
              clear hP h92 h65
              have d1 : decide ((32 : Int) ≤ (r : Int)) = true := by simp; have := HPR.out; omega
              have d2 : decide ((r : Int) ≤ 126) = true := by simp; have := HPR.out; omega
              clear hpr
              have hue : Utf8.encode (r : Int) = ⟨(enc r).toArray⟩ := by rw [enc_eq, Lib.mk_data]
              have hel : (enc r).length = 1 := by rw [enc_1 (by have := HPR.out; omega)]; rfl
              have heE : (⟨(enc r).toArray⟩ : ByteArray).data.toList = [UInt8.ofNat r] := by rw [enc_1 (by have := HPR.out; omega)]
              generalize hEg : (⟨(enc r).toArray⟩ : ByteArray) = E at hue heE
              have hEz : E.size = 1 := by rw [← hEg, Lib.size_eq]; simpa using hel
              have HE := Lib.hid heE
              clear heE hel hEg
              go_wp2
              go_roundw
              case rel =>
                refine ⟨pos + wd, _, rfl, by omega, ?_, ?_, HIT.out, hbwW⟩
                · simp only [ByteArray.size_append]; omega
                · rw [← HP.out]
                  simp only [ByteArray.data_append, Array.toList_append, HE.out, List.append_assoc]
              case measure =>
                rw [iterPos_of HIT.out, HP0.out]; omega
            · rw [if_neg hpr] at hP
              have HP := Lib.hid hP
              clear hP h92 h65
              by_cases hlo : 32 ≤ r
              · have d1 : decide ((32 : Int) ≤ (r : Int)) = true := by simp; omega
                have d2 : decide ((r : Int) ≤ 126) = false := by simp; omega
                clear hpr
                go_wp2_with fail
                refine (fmt16 _ r (by omega) W (by omega) hZW).mono ?_
                rintro e w2 ⟨H1, rfl, hz1, hH1, hb2⟩
                have hbwW2 := hbwW.trans (hb2.mono (by omega))
                have hkW2 : w2.heap[w.heap.size]? = some (.stringIter s (pos + wd)) := (hb2.block _ hszW).trans HIT.out
                have HK := Lib.hid hkW2
                clear hkW2
                go_wp2
                go_roundw
                case rel =>
                  refine ⟨pos + wd, _, rfl, by omega, ?_, ?_, HK.out, hbwW2⟩
                  · simp only [ByteArray.size_append]; rw [show (⟨#[92, 117]⟩ : ByteArray).size = 2 from rfl, show (⟨#[59]⟩ : ByteArray).size = 1 from rfl]; omega
                  · rw [← HP.out]
                    simp only [ByteArray.data_append, Array.toList_append, hH1.out, List.append_assoc]
                case measure =>
                  rw [iterPos_of HK.out, HP0.out]; omega
              · have d1 : decide ((32 : Int) ≤ (r : Int)) = false := by simp; omega
                clear hpr
                go_wp2_with fail
                refine (fmt16 _ r (by omega) W (by omega) hZW).mono ?_
                rintro e w2 ⟨H1, rfl, hz1, hH1, hb2⟩
                have hbwW2 := hbwW.trans (hb2.mono (by omega))
                have hkW2 : w2.heap[w.heap.size]? = some (.stringIter s (pos + wd)) := (hb2.block _ hszW).trans HIT.out
                have HK := Lib.hid hkW2
                clear hkW2
                go_wp2
                go_roundw
                case rel =>
                  refine ⟨pos + wd, _, rfl, by omega, ?_, ?_, HK.out, hbwW2⟩
                  · simp only [ByteArray.size_append]; rw [show (⟨#[92, 117]⟩ : ByteArray).size = 2 from rfl, show (⟨#[59]⟩ : ByteArray).size = 1 from rfl]; omega
                  · rw [← HP.out]
                    simp only [ByteArray.data_append, Array.toList_append, hH1.out, List.append_assoc]
                case measure =>
                  rw [iterPos_of HK.out, HP0.out]; omega
    · have hnx : ∀ ty, (Instr.next (.pointer (some ⟨w.heap.size, 0, none⟩)) true ty).run Tryd.prog wr = _ := fun ty => Lib.run_next_end_at wr w.heap.size s pos ty hit hlt
      have hnil : s.data.toList.drop pos = [] := List.drop_eq_nil_of_le (by have := HSZ.out; omega)
      rw [hnil, shown_nil, List.append_nil] at hP
      have HP := Lib.hid hP
      clear hnil hP hit
      go_wp2
      go_ret
      exact ⟨by rw [← HP.out, Lib.mk_data]; rfl, hbw⟩
end Go.Proofs.YtofdhhemdoodaaaDoor.Nm
