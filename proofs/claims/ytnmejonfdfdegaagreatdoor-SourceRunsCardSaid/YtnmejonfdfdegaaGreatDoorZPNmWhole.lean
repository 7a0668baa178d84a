import Derived.Test.YtnmejonfdfdegaaGreatDoorProg
import Derived.Test.YtnmejonfdfdegaaGreatDoorZShelf
import Derived.Test.YtnmejonfdfdegaaGreatDoorZPRowKit
import Derived.WalkKit
import Derived.WalkSpells
import Derived.WalkLawsBesides
import Derived.Lib.Hide
import Derived.Deep.OwnRows
import Derived.Deep.LoopGhost
import Derived.Lib.Split
import Derived.Lib.SplitLaws
import Derived.Deep.QuietTactic
import Derived.BigQuiet
import Derived.WalkSmall
set_option linter.unusedSimpArgs false
set_option linter.unusedVariables false
set_option maxHeartbeats 4000000
set_option maxRecDepth 100000
namespace Go.Proofs.YtnmejonfdfdegaaGreatDoor.Nm
open Go.RowKit
def WholeRel (l:List UInt8) (pos k:Nat):Prop:=okB l=okB (l.drop pos)∧count l=k+count (l.drop pos)
theorem wholeRel_zero (l:List UInt8):WholeRel l 0 0:=⟨by simp,by simp⟩
theorem ne_of_lt {l:List UInt8} {pos:Nat} (h:pos < l.length):l.drop pos≠[]:=by
 intro e;have:=congrArg List.length e;rw[List.length_drop] at this;simp at this;omega
theorem wholeRel_step {l:List UInt8} {pos k:Nat} (hp:pos < l.length) (h:WholeRel l pos k) (h1:(dec (l.drop pos)).1=65533→Lib.hasPrefix (l.drop pos) [239,191,189]=true):
 WholeRel l (pos+(dec (l.drop pos)).2) (k+1):=by
 have hne:=ne_of_lt hp
 refine⟨?_,?_⟩
 · rw[h.1,okB_good _ hne h1,List.drop_drop]
 · rw[h.2,count_cons _ hne,List.drop_drop];omega
theorem wholeRel_end {l:List UInt8} {pos k:Nat} (hp:¬ pos < l.length) (h:WholeRel l pos k):okB l=true∧count l=k:=by
 have e:l.drop pos=[]:=List.drop_eq_nil_of_le (by omega)
 obtain⟨a,b⟩:=h
 rw[e] at a b
 exact⟨a,by rw[b];simp[count]⟩
theorem wholeRel_bad {l:List UInt8} {pos k:Nat} (hp:pos < l.length) (h:WholeRel l pos k) (h1:(dec (l.drop pos)).1=65533) (h2:Lib.hasPrefix (l.drop pos) [239,191,189]=false):okB l=false:=by
 rw[h.1,okB_bad _ (ne_of_lt hp) h1 h2]
theorem wholeRel_lt {l:List UInt8} {pos k:Nat} (hp:pos < l.length) (h:WholeRel l pos k):k < l.length:=by
 have:=count_le l;have:=h.2;have:=count_cons _ (ne_of_lt hp);omega
theorem whole_any (s:ByteArray) (w:World) (hs:s.size≤maxLen):
 Calls Tryz.prog 107 #[.string s] w fun e w'=>e= .returned (.tuple #[.int .i64 (whN s.data.toList),.bool (okB s.data.toList)])∧∃ pos,w'=w.iter s pos:=by
 unfold maxLen at hs
 have hsz:=Lib.size_eq s
 go_enter Tryz.func107,Tryz.ntmps107
 go_wp2
 go_loopw [2] (fun n w'=>∃ (pos k:Nat),w'=w.iter s pos∧n= .int .i64 k∧WholeRel s.data.toList pos k) (fun _ w'=>s.size - w'.iterPos w.heap.size)
 case atStart=>exact ⟨0,0,rfl,rfl,wholeRel_zero _⟩
 case round=>
  obtain⟨pos,k,rfl,rfl,hrel⟩:=hrel
  by_cases hp:pos < s.size
  · have hk:k < s.size:=by have:=wholeRel_lt (hsz ▸ hp) hrel;omega
    have hnx:∀ ty,(Instr.next (.pointer (some ⟨w.heap.size,0,none⟩)) true ty).run Tryz.prog (w.iter s pos)=_:=fun ty=>run_next_any w s pos ty hp
    have hw:=dec_width _ (ne_of_lt (hsz ▸ hp))
    rw[decode_drop] at hnx
    have hext:(s.extract pos s.size).data.toList=s.data.toList.drop pos:=by
     rw[Lib.extract_data];exact List.take_of_length_le (by rw[List.length_drop];omega)
    have hb:=dec_bound (s.data.toList.drop pos)
    have HZ:=Lib.hid hsz;clear hsz
    have HX:=Lib.hid hext;clear hext
    have HR:=Lib.hid hrel;clear hrel
    by_cases h1:(dec (s.data.toList.drop pos)).1=65533
    · have H1:=Lib.hid h1
      have h1':(((dec (s.data.toList.drop pos)).1:Int)==65533)=true:=by rw[beq_iff_eq];omega
      clear h1
      cases h2:Lib.hasPrefix (s.data.toList.drop pos) [239,191,189] with
      |false=>
       have H2:=Lib.hid h2;clear h2
       go_wp2_with fail
       refine(Tryz.strings_HasPrefix _ _ _).mono ?_
       rintro e w1 ⟨rfl,rfl⟩
       rw[HX.out]
       have h2:=H2.out
       go_wp2
       go_ret2
       have hbad:=wholeRel_bad (HZ.out ▸ hp) HR.out H1.out H2.out
       exact⟨by rw[whN,hbad];rfl,_,rfl⟩
      |true=>
       have H2:=Lib.hid h2;clear h2
       go_wp2_with fail
       refine(Tryz.strings_HasPrefix _ _ _).mono ?_
       rintro e w1 ⟨rfl,rfl⟩
       rw[HX.out]
       have h2:=H2.out
       go_wp2
       go_roundw
       case rel=>exact ⟨_,k+1,rfl,by go_num,wholeRel_step (HZ.out ▸ hp) HR.out (fun _=>H2.out)⟩
       case measure=>simp;omega
    · have H1:=Lib.hid h1
      have h1':(((dec (s.data.toList.drop pos)).1:Int)==65533)=false:=by rw[beq_eq_false_iff_ne];omega
      clear h1
      go_wp2
      go_roundw
      case rel=>exact ⟨_,k+1,rfl,by go_num,wholeRel_step (HZ.out ▸ hp) HR.out (fun h=>absurd h H1.out)⟩
      case measure=>simp;omega
  · have hnx:∀ ty,(Instr.next (.pointer (some ⟨w.heap.size,0,none⟩)) true ty).run Tryz.prog (w.iter s pos)=_:=fun ty=>run_next_end w s pos ty hp
    obtain⟨e1,e2⟩:=wholeRel_end (hsz ▸ hp) hrel
    go_wp2
    go_ret2
    exact⟨by rw[whN,e1,e2];rfl,_,rfl⟩
end Go.Proofs.YtnmejonfdfdegaaGreatDoor.Nm
namespace Go.Proofs.YtnmejonfdfdegaaGreatDoor.Nm
open Go.RowKit
open Lib (hid)
theorem runesFine_cons (l:List UInt8) (h:l≠[]):runesFine l=(fine (dec l).1 && runesFine (l.drop (dec l).2)):=by
 rw[runesFine,seg_cons l h,List.all_cons];rfl
def chkN (l:List UInt8):Int:=if chk l then 0 else 10
theorem check_any (s:ByteArray) (w:World) (hs:s.size≤maxLen):
 Calls Tryz.prog 92 #[.string s] w fun e w'=>e= .returned (.int .i64 (chkN s.data.toList))∧Below w.heap.size w w':=by
 have hwh:=whole_any s w hs
 have hsz:=Lib.size_eq s
 unfold maxLen at hs
 cases h1:okB s.data.toList with
 |false=> 
  rw[h1] at hwh
  have hfin:chkN s.data.toList=10:=by simp[chkN,chk,lenFine,h1]
  have HF:=hid hfin;clear hfin h1 hsz
  go_enter Tryz.func92,Tryz.ntmps92
  go_wp2_with fail
  refine hwh.mono ?_
  rintro e w1 ⟨rfl,pos,rfl⟩
  clear hwh
  go_wp2
  go_ret
  exact⟨by rw[HF.out];rfl,(Below.refl _ _).alloc (Nat.le_refl _) _⟩
 |true=>
  rw[h1] at hwh
  generalize hn:whN s.data.toList=n at*
  have hc:count s.data.toList=n:=by rw[←hn,whN,h1];rfl
  by_cases h2:1≤n∧n≤64
  · obtain⟨h2,h3⟩:=h2
    by_cases h4:s.size≤255
    · cases h5:s.toList==[46] with
      |true=>
       have hfin:chkN s.data.toList=10:=by
        have e:s.data.toList=[46]:=by rw[←Lib.toList_data];simpa using h5
        rw[e];decide
       have HF:=hid hfin;clear hfin h1 hsz hc hn
       go_enter Tryz.func92,Tryz.ntmps92
       go_wp2_with fail
       refine hwh.mono ?_
       rintro e w1 ⟨rfl,pos,rfl⟩
       clear hwh
       go_wp2
       go_ret
       exact⟨by rw[HF.out];rfl,(Below.refl _ _).alloc (Nat.le_refl _) _⟩
      |false=>
      cases h6:s.toList==[46,46] with
      |true=>
       have hfin:chkN s.data.toList=10:=by
        have e:s.data.toList=[46,46]:=by rw[←Lib.toList_data];simpa using h6
        rw[e];decide
       have HF:=hid hfin;clear hfin h1 hsz hc hn
       go_enter Tryz.func92,Tryz.ntmps92
       go_wp2_with fail
       refine hwh.mono ?_
       rintro e w1 ⟨rfl,pos,rfl⟩
       clear hwh
       go_wp2
       go_ret
       exact⟨by rw[HF.out];rfl,(Below.refl _ _).alloc (Nat.le_refl _) _⟩
      |false=>
       have hlf:lenFine s.data.toList=true:=by
        rw[Lib.toList_data] at h5 h6
        rw[lenFine,h1,hc,←hsz,h5,h6];simp;omega
       have HL:=hid hlf;clear hlf hc hn h1
       have HZ:=hid hsz;clear hsz
       go_enter Tryz.func92,Tryz.ntmps92
       go_wp2_with fail
       refine hwh.mono ?_
       rintro e w1 ⟨rfl,pos,hw1⟩
       have hb:Below w.heap.size w w1:=hw1 ▸ (Below.refl _ _).alloc (Nat.le_refl _) _
       clear hwh hw1
       go_wp2
       go_loopw [6] (fun _ w'=>∃ pos:Nat,w'=w1.iter s pos∧runesFine s.data.toList=runesFine (s.data.toList.drop pos)) (fun _ w'=>s.size - w'.iterPos w1.heap.size)
       case atStart=>exact ⟨0,rfl,by simp⟩
       case round=>
        obtain⟨pos,rfl,hrel⟩:=hrel
        by_cases hp:pos < s.size
        · have hnx:∀ ty,(Instr.next (.pointer (some ⟨w1.heap.size,0,none⟩)) true ty).run Tryz.prog (w1.iter s pos)=_:=fun ty=>run_next_any w1 s pos ty hp
          have hsz:=HZ.out
          have hw:=dec_width _ (ne_of_lt (hsz ▸ hp))
          have hcons:=runesFine_cons _ (ne_of_lt (hsz ▸ hp))
          rw[decode_drop] at hnx
          have hd:=dec_bound (s.data.toList.drop pos)
          rw[←hrel,List.drop_drop] at hcons
          generalize hr:(dec (s.data.toList.drop pos)).1=r at*
          generalize (dec (s.data.toList.drop pos)).2=wd at*
          have HC:=hid hcons
          have HR:=hid hrel
          clear hcons hrel hr hsz
          cases hf:fine r with
          |true=>
           have HF:=hid hf
           have hn1:¬ r < 32∧¬ r=127∧¬ r=47:=by simpa [fine,and_assoc] using hf
           have t2:((r:Int)==127)=false:=by rw[beq_eq_false_iff_ne];omega
           have t3:((r:Int)==47)=false:=by rw[beq_eq_false_iff_ne];omega
           have t1:32≤r:=by omega
           clear hf hn1
           go_wp2
           go_roundw
           case rel=>exact ⟨_,rfl,by rw[HC.out,HF.out];rfl⟩
           case measure=>simp;omega
          |false=>
           have hfin:chkN s.data.toList=10:=by
            rw[chkN,chk,HC.out,hf];simp
           have HF:=hid hfin;clear hfin
           have hn1:r < 32∨r=127∨r=47:=by
            by_cases a:r < 32∨r=127∨r=47
            · exact a
            · exfalso;have:fine r=true:=by {simp [fine];omega}
              rw[this] at hf;cases hf
           clear hf
           rcases hn1 with t1|rfl|rfl
           all_goals
            go_wp2
            go_ret
            exact⟨by rw[HF.out];rfl,hb.trans (((Below.refl _ _).alloc (Nat.le_refl _) _).mono hb.size)⟩
        · have hnx:∀ ty,(Instr.next (.pointer (some ⟨w1.heap.size,0,none⟩)) true ty).run Tryz.prog (w1.iter s pos)=_:=fun ty=>run_next_end w1 s pos ty hp
          have hsz:=HZ.out
          have hfin:chkN s.data.toList=0:=by
           have e:s.data.toList.drop pos=[]:=List.drop_eq_nil_of_le (by omega)
           rw[e] at hrel
           rw[chkN,chk,HL.out,hrel];rfl
          have HF:=hid hfin;clear hfin hrel hsz
          go_wp2
          go_ret
          exact⟨by rw[HF.out];rfl,hb.trans (((Below.refl _ _).alloc (Nat.le_refl _) _).mono hb.size)⟩
    · have hfin:chkN s.data.toList=10:=by
       simp only[chkN,chk,lenFine,←hsz]
       rw[if_neg];simp;omega
      have HF:=hid hfin;clear hfin h1 hsz hc hn
      go_enter Tryz.func92,Tryz.ntmps92
      go_wp2_with fail
      refine hwh.mono ?_
      rintro e w1 ⟨rfl,pos,rfl⟩
      clear hwh
      go_wp2
      go_ret
      exact⟨by rw[HF.out];rfl,(Below.refl _ _).alloc (Nat.le_refl _) _⟩
  · have hfin:chkN s.data.toList=10:=by
     simp only[chkN,chk,lenFine,h1,hc,Bool.true_and]
     rw[if_neg];simp;omega
    have HF:=hid hfin;clear hfin h1 hsz hc hn
    by_cases h4:1≤n 
    · have h3:64 < n:=by omega
      clear h2
      go_enter Tryz.func92,Tryz.ntmps92
      go_wp2_with fail
      refine hwh.mono ?_
      rintro e w1 ⟨rfl,pos,rfl⟩
      clear hwh
      go_wp2
      go_ret
      exact⟨by rw[HF.out];rfl,(Below.refl _ _).alloc (Nat.le_refl _) _⟩
    · have h3:n < 1:=by omega
      clear h2
      go_enter Tryz.func92,Tryz.ntmps92
      go_wp2_with fail
      refine hwh.mono ?_
      rintro e w1 ⟨rfl,pos,rfl⟩
      clear hwh
      go_wp2
      go_ret
      exact⟨by rw[HF.out];rfl,(Below.refl _ _).alloc (Nat.le_refl _) _⟩
end Go.Proofs.YtnmejonfdfdegaaGreatDoor.Nm
namespace Go.Proofs.YtnmejonfdfdegaaGreatDoor.Nm
open Go.RowKit Go.Lib
open Lib (hid)
theorem infoString:(Tryz.prog.info? 9).map (fun i=>(i.zero,i.size,i.bytes))=some (some (.string ByteArray.empty),1,16):=by kernel_rfl
theorem indexB_one (x:ByteArray) (c:UInt8):Lib.indexB x ⟨#[c]⟩=Lib.indexByte x.data.toList c:=Lib.index_one x.data.toList c
set_option maxRecDepth 1000000 in
theorem genSplit_one (s:ByteArray) (c:UInt8) (w:World) (hs:s.size≤4611686018427387904) (hcnt:s.data.toList.count c≤1000000):
 Calls Tryz.prog 106 #[.string s,.string ⟨#[c]⟩,.int .i64 0,.int .i64 (-1)] w fun e w'=>
  e= .returned (.slice (some ⟨w.heap.size,0,none⟩) (Lib.splitB ⟨#[c]⟩ 0 (s.data.toList.count c) s).length (s.data.toList.count c+1))∧w'=w.alloc (.cells (Lib.cellsOf (Lib.splitB ⟨#[c]⟩ 0 (s.data.toList.count c) s) (s.data.toList.count c+1)) 9):=by
 have hC:=Tryz.strings_Count_one s c w
 have hI:=fun (x:ByteArray) (w:World)=>(Tryz.strings_Index_one x c w).mono (R':=fun e w'=>e= .returned (.int .i64 (Lib.indexB x ⟨#[c]⟩))∧w'=w) fun e w' h=>by rw[indexB_one];exact h
 have hcl:s.data.toList.count c≤s.size:=by rw[Lib.size_eq];exact List.count_le_length
 unfold Lib.countByte at hC
 have hN:s.data.toList.count c+1 - 1=s.data.toList.count c:=by omega
 generalize s.data.toList.count c=cn at*
 have hmk:=run_make_row' (P:=Tryz.prog) 57 9 (.string ByteArray.empty) 16 Tryz.underlying57 infoString rfl .i64 .i64 (cn+1) (by omega) (by omega)
 have ec:((cn+1:Nat):Int)=(cn:Int)+1:=by omega
 rw[ec] at hmk
 have hmin:min ((cn:Int)+1) ((s.size:Int)+1)=(cn:Int)+1:=by omega
 have HI:=hid hI;clear hI ec hN
 go_enter Tryz.func106,Tryz.ntmps106
 go_wp2_with (go_at_call 90;refine hC.mono ?_;rintro e w' ⟨rfl,hw⟩;rw[hw])
 clear hmk hC hmin
 go_loopg [0,10] cn (fun g s0 s10 wr=>∃ (done:List ByteArray) (rest:ByteArray),s0= .string rest∧s10= .int .i64 done.length∧done.length≤cn∧g=cn - done.length∧rest.size≤s.size∧
  wr=w.alloc (.cells (Lib.cellsOf done (cn+1)) 9)∧done++Lib.splitB ⟨#[c]⟩ 0 (cn - done.length) rest=Lib.splitB ⟨#[c]⟩ 0 cn s)
 case atStart=>exact ⟨[],s,rfl,rfl,Nat.zero_le _,rfl,Nat.le_refl _,by rw[Lib.cellsOf_nil],rfl⟩
 case round=>
  obtain⟨done,rest,rfl,rfl,hd,rfl,hrs,rfl,hsp⟩:=hrel
  have hnext:(Lib.cellsOf done (cn+1))[done.length]? =some (.string ByteArray.empty):=Lib.cellsOf_next (by omega)
  have HS:=hid hsp
  clear hsp
  have fin:Lib.splitB ⟨#[c]⟩ 0 (cn - done.length) rest=[rest]→(Lib.splitB ⟨#[c]⟩ 0 cn s).length=done.length+1∧(Lib.cellsOf done (cn+1)).setIfInBounds done.length (.string rest)=Lib.cellsOf (Lib.splitB ⟨#[c]⟩ 0 cn s) (cn+1):=fun h=>by
   have e:=HS.out
   rw[h] at e
   rw[←e]
   exact⟨by simp,Lib.cellsOf_set (by omega) rest⟩
  by_cases hlt:done.length < cn
  · rcases Lib.indexB_cases rest ⟨#[c]⟩ with hix|⟨i,hix,hroom⟩
    · have HF:=hid fin;have HX:=hid hix
      clear fin hix
      go_wp2_with (first|(go_at_call 105;refine(HI.out rest _).mono ?_;rintro e w' ⟨rfl,hw⟩;rw[hw,HX.out]))
      go_ret
      obtain⟨f1,f2⟩:=HF.out (Lib.splitB_miss ⟨#[c]⟩ 0 _ rest HX.out)
      rw[f1,←f2]
      exact⟨by first|rfl|(congr 2 <;> omega),rfl⟩
    · have HF:=hid fin;have HX:=hid hix
      clear fin hix
      have hroom':i+1≤rest.size:=hroom
      clear hroom
      have c0:¬ ((i:Int) < 0):=by omega
      go_wp2_with (first|(go_at_call 105;refine(HI.out rest _).mono ?_;rintro e w' ⟨rfl,hw⟩;rw[hw,HX.out]))
      go_roundg (cn - (done.length+1))
      case measure=>omega
      case rel=>
       refine⟨done++[rest.extract 0 (i+0)],rest.extract (i+1) rest.size,rfl,by simp,by simp;omega,by simp,by rw[ByteArray.size_extract];omega,by rw[←Lib.cellsOf_set (by omega)];rfl,?_⟩
       have h:=Lib.splitB_hit ⟨#[c]⟩ 0 (cn - (done.length+1)) rest i HX.out
       rw[←HS.out,show cn - done.length=(cn - (done.length+1))+1 by omega,h]
       simp
       rfl
  · have hltz:¬ (((done.length:Nat):Int) < (cn:Int)):=by omega
    have HF:=hid fin
    clear fin
    go_wp2
    go_ret
    obtain⟨f1,f2⟩:=HF.out (by rw[show cn - done.length=0 by omega];rfl)
    rw[f1,←f2]
    exact⟨by first|rfl|(congr 2 <;> omega),rfl⟩
theorem split_one (s:ByteArray) (c:UInt8) (w:World) (hs:s.size≤4611686018427387904) (hcnt:s.data.toList.count c≤1000000):
 Calls Tryz.prog 91 #[.string s,.string ⟨#[c]⟩] w fun e w'=>
  e= .returned (.slice (some ⟨w.heap.size,0,none⟩) (s.data.toList.count c+1) (s.data.toList.count c+1))∧w'=w.alloc (.cells ((Lib.splitB ⟨#[c]⟩ 0 (s.data.toList.count c) s).map Value.string).toArray 9):=by
 have hlen:=Lib.splitB_all ⟨#[c]⟩ (Nat.le_refl 1) 0 (s.data.toList.count c) s (Lib.count_one c s.data.toList)
 have hc:=genSplit_one s c w hs hcnt
 have e2:Lib.cellsOf (Lib.splitB ⟨#[c]⟩ 0 (s.data.toList.count c) s) (s.data.toList.count c+1)=((Lib.splitB ⟨#[c]⟩ 0 (s.data.toList.count c) s).map Value.string).toArray:=by rw[←hlen];exact Lib.cellsOf_full _
 rw[e2,hlen] at hc
 clear e2 hlen
 generalize s.data.toList.count c=cn at*
 have HC:=hid hc;clear hc
 go_enter Tryz.func91,Tryz.ntmps91
 go_wp2_with fail
 refine HC.out.mono ?_
 rintro e w' ⟨rfl,hw⟩
 rw[hw]
 go_wp2
 go_ret
 exact⟨rfl,rfl⟩
end Go.Proofs.YtnmejonfdfdegaaGreatDoor.Nm
namespace Go.Proofs.YtnmejonfdfdegaaGreatDoor.Nm
open Go.RowKit
open Lib (hid)
theorem bsz {w w1:World} {o:Obj} (h:Below (w.heap.size+1) (w.alloc o) w1):w.heap.size+1≤w1.heap.size:=by
 have:=h.size
 simpa using this
def sv (l:List UInt8):Value:= .string ⟨l.toArray⟩
theorem sv_data (s:ByteArray):sv s.data.toList= .string s:=by rw[sv,Lib.mk_data]
def splitE (p:List UInt8):Int:=if (splitP p).isSome then 0 else 10
def splitL (p:List UInt8):List (List UInt8):=(splitP p).getD []
theorem splitP_no1 {p:List UInt8} (h0:p≠[47]) (h:Lib.hasPrefix p [47]=false):splitP p=none:=by
 rw[splitP,if_neg h0,h];rfl
theorem splitP_no2 {p:List UInt8} (h0:p≠[47]) (h:¬ p.count 47≤16):splitP p=none:=by
 rw[splitP,if_neg h0,if_neg];simp;omega
theorem splitP_no3 {p:List UInt8} {n:List UInt8} (h0:p≠[47]) (h:n∈parts (p.drop 1)) (hc:chk n=false):splitP p=none:=by
 rw[splitP,if_neg h0,if_neg]
 intro hh
 simp only[Bool.and_eq_true,List.all_eq_true] at hh
 have:=hh.2 n h
 rw[hc] at this;cases this
theorem splitP_yes {p:List UInt8} (h0:p≠[47]) (h1:Lib.hasPrefix p [47]=true) (h2:p.count 47≤16) (h3:(parts (p.drop 1)).all chk=true):splitP p=some (parts (p.drop 1)):=by
 rw[splitP,if_neg h0,if_pos];simp only[h1,h3,Bool.true_and,Bool.and_true];simpa using h2
def SplitPost (p:List UInt8) (w:World) (e:Ending) (w':World):Prop:=
 ∃ v,e= .returned (.tuple #[v,.int .i64 (splitE p)])∧w'.ownsRow w.heap.size 9 1 v (splitL p).length ((splitL p).map sv)∧Below w.heap.size w w'
theorem splitPost_no {p:List UInt8} {w w':World} {e:Ending} (h:splitP p=none) (he:e= .returned (.tuple #[.slice none 0 0,.int .i64 10])) (hb:Below w.heap.size w w'):SplitPost p w e w':=by
 refine⟨.slice none 0 0,?_,?_,hb⟩
 · rw[he,splitE,h];rfl
 · rw[splitL,h];exact⟨rfl,.inl ⟨rfl,rfl⟩⟩
theorem size_of_prefix {p:ByteArray} (h:Lib.hasPrefix p.data.toList [47]=true):1≤p.size:=by
 obtain⟨t,e⟩:=(hasPrefix_one _).1 h
 rw[Lib.size_eq,e];simp
theorem split_any (p:ByteArray) (w:World) (hs:p.size≤4611686018427387904):
 Calls Tryz.prog 74 #[.string p] w (SplitPost p.data.toList w):=by
 have hhp:=fun w=>Tryz.strings_HasPrefix p ⟨#[47]⟩ w
 have hcn:=fun w=>Tryz.strings_Count_one p 47 w
 unfold Lib.countByte at hcn
 have e47:(⟨#[47]⟩:ByteArray).data.toList=[47]:=rfl
 rw[e47] at hhp
 by_cases h0:p.data.toList=[47]
 · have h0':(p.toList==[47])=true:=by rw[Lib.toList_data];simpa using h0
   have hend:∀ w',Below w.heap.size w w'→SplitPost p.data.toList w (.returned (.tuple #[.slice none 0 0,.int .i64 0])) w':=by
    intro w' hb
    have hp:splitP p.data.toList=some []:=by rw[splitP,if_pos h0]
    refine⟨.slice none 0 0,by rw[splitE,hp];rfl,?_,hb⟩
    rw[splitL,hp];exact⟨rfl,.inl ⟨rfl,rfl⟩⟩
   have HE:=hid hend
   clear hhp hcn h0 hend
   go_enter Tryz.func74,Tryz.ntmps74
   go_wp2
   go_ret2
   exact HE.out _ (Below.refl _ _)
 · have h0':(p.toList==[47])=false:=by rw[Lib.toList_data];simpa using h0
   cases h1:Lib.hasPrefix p.data.toList [47] with
   |false=>
    have HN:=hid (splitP_no1 h0 h1)
    rw[h1] at hhp
    have HP:=hid hhp
    clear hhp hcn h0 h1
    go_enter Tryz.func74,Tryz.ntmps74
    go_wp2_with fail
    refine(HP.out _).mono ?_
    rintro e w1 ⟨rfl,rfl⟩
    go_wp2
    go_ret2
    exact splitPost_no HN.out rfl (Below.refl _ _)
   |true=>
    rw[h1] at hhp
    have HP:=hid hhp
    by_cases h2:p.data.toList.count 47≤16
    · have hsz:=size_of_prefix h1
      have hx:(p.extract 1 p.size).data.toList=p.data.toList.drop 1:=by
       rw[Lib.extract_data];exact List.take_of_length_le (by rw[List.length_drop,Lib.size_eq];omega)
      have hgs:=fun w=>split_one (p.extract 1 p.size) 47 w (by rw[ByteArray.size_extract];omega) (by rw[hx];have:=List.Sublist.count_le (47:UInt8) (List.drop_sublist 1 p.data.toList);omega)
      rw[hx] at hgs
      have hgp:(Lib.splitB ⟨#[47]⟩ 0 ((p.data.toList.drop 1).count 47) (p.extract 1 p.size)).map (·.data.toList)=parts (p.data.toList.drop 1):=by
       have:=splitB_parts (p.extract 1 p.size);rw[hx] at this;exact this
      have hyes:=splitP_yes h0 h1 h2
      have hno:=fun n=>splitP_no3 (n:=n) h0
      have hpl:=parts_count (p.data.toList.drop 1)
      have hcl:(p.data.toList.drop 1).count 47≤16:=by have:=List.Sublist.count_le (47:UInt8) (List.drop_sublist 1 p.data.toList);omega
      have hmem:∀ b∈Lib.splitB ⟨#[47]⟩ 0 ((p.data.toList.drop 1).count 47) (p.extract 1 p.size),b.size≤p.size:=by
       intro b hb
       have:=parts_le (p.data.toList.drop 1) b.data.toList (by rw[←hgp];exact List.mem_map_of_mem hb)
       rw[List.length_drop,←Lib.size_eq,←Lib.size_eq] at this;omega
      generalize (p.data.toList.drop 1).count 47=N at*
      generalize Lib.splitB ⟨#[47]⟩ 0 N (p.extract 1 p.size)=bs at*
      generalize parts (p.data.toList.drop 1)=ps at*
      generalize p.data.toList.count 47=n at*
      have HC:=hid hcn
      have HG:=hid hgs
      have HQ:=hid hgp
      have HY:=hid hyes
      have HO:=hid hno
      have HL:=hid hpl
      have HM:=hid hmem
      clear hhp hcn h0 h1 hx hgs hgp hyes hno hpl hmem
      go_enter Tryz.func74,Tryz.ntmps74
      go_wp2_with fail
      refine(HP.out _).mono ?_
      rintro e w1 ⟨rfl,rfl⟩
      go_wp2_with fail
      refine(HC.out _).mono ?_
      rintro e w2 ⟨rfl,rfl⟩
      go_wp2_with fail
      refine(HG.out _).mono ?_
      rintro e w3 ⟨rfl,rfl⟩
      go_wp2_with fail
      have hlen:bs.length=N+1:=by rw[←HL.out,←HQ.out,List.length_map]
      have HLN:=hid hlen
      clear hlen
      go_loopw [23] (fun s23 wr=>∃ k:Nat,k≤N+1∧s23= .int .i64 k∧(∀ j b,j < k→bs[j]? =some b→chk b.data.toList=true)∧Below (w2.heap.size+1) (w2.alloc (.cells (bs.map Value.string).toArray 9)) wr) (fun s23 _=>N+1 - (intOf s23).toNat)
      case atStart=>exact ⟨0,by omega,rfl,fun j b h=>by omega,Below.refl _ _⟩
      case round=>
       obtain⟨k,hk,rfl,hall,hbw⟩:=hrel
       have hcell:∀ j b,bs[j]? =some b→wr.cell? ⟨w2.heap.size,j,none⟩=some (.string b):=by
        intro j b hj
        rw[hbw.cell (p:=⟨w2.heap.size,j,none⟩) (by simp),World.cell?_alloc_mark]
        simp[hj]
       have HCL:=hid hcell
       have HA:=hid hall
       clear hall hcell
       by_cases hlt:k < N+1
       · obtain⟨b,hkb⟩:∃ b,bs[k]? =some b:=⟨bs[k]'(by rw[HLN.out];exact hlt),List.getElem?_eq_getElem _⟩
         have hc1:=HCL.out k b hkb
         have hbs:b.size≤p.size:=HM.out b (List.mem_of_getElem? hkb)
         have hmp:b.data.toList∈ps:=by rw[←HQ.out];exact List.mem_map_of_mem (List.mem_of_getElem? hkb)
         have hch:=check_any b wr (by unfold maxLen;omega)
         have HKB:=hid hkb
         have HMP:=hid hmp
         clear hkb hmp
         cases hcb:chk b.data.toList with
         |false=>
          have e1:chkN b.data.toList=10:=by rw[chkN,hcb];rfl
          rw[e1] at hch
          have HN:=hid (HO.out _ HMP.out hcb)
          have HCH:=hid hch
          clear e1 hcb hch
          go_wp2_with fail
          refine HCH.out.mono ?_
          rintro e w3 ⟨rfl,hb3⟩
          go_wp2
          go_ret2
          exact splitPost_no HN.out rfl (((Below.refl _ _).alloc (Nat.le_refl _) _).trans (Below.mono (hbw.trans (hb3.mono (bsz hbw))) (Nat.le_succ _)))
         |true=>
          have e1:chkN b.data.toList=0:=by rw[chkN,hcb];rfl
          rw[e1] at hch
          have HCB:=hid hcb
          have HCH:=hid hch
          clear e1 hcb hch
          go_wp2_with fail
          refine HCH.out.mono ?_
          rintro e w3 ⟨rfl,hb3⟩
          go_wp2
          go_roundw
          case rel=>
           refine⟨k+1,by omega,by go_num,?_,hbw.trans (hb3.mono (bsz hbw))⟩
           intro j b' hj hjb
           by_cases e:j=k
           · subst e;rw[HKB.out] at hjb;cases hjb;exact HCB.out
           · exact HA.out j b' (by omega) hjb
          case measure=>simp [intOf];omega
       · have hkn:k=N+1:=by omega
         have hfin:splitP p.data.toList=some ps:=HY.out (by
          rw[←HQ.out,List.all_eq_true]
          intro x hx
          obtain⟨b,hb,rfl⟩:=List.mem_map.1 hx
          obtain⟨j,hj,e⟩:=List.getElem_of_mem hb
          exact HA.out j b (by rw[HLN.out] at hj;omega) (by rw[List.getElem?_eq_getElem hj,e]))
         have HF:=hid hfin
         clear hfin
         go_wp2
         go_ret2
         refine⟨.slice (some ⟨w2.heap.size,0,none⟩) (N+1) (N+1),by rw[splitE,HF.out];rfl,?_,((Below.refl _ _).alloc (Nat.le_refl _) _).trans (hbw.mono (Nat.le_succ _))⟩
         rw[splitL,HF.out]
         refine⟨by simp,.inr ⟨w2.heap.size,N+1,(bs.map Value.string).toArray,by rw[Option.getD_some,HL.out],Nat.le_refl _,?_,by rw[Option.getD_some,HL.out];exact Nat.le_refl _,by unfold maxLen;omega,by simp[HLN.out],?_⟩⟩
         · rw[hbw.block _ (by omega)]
           show(w2.heap.push _)[w2.heap.size]? =_
           simp
         · rw[Option.getD_some,HL.out,←HQ.out]
           rw[List.take_of_length_le (by simp[HLN.out]),List.map_map]
           simp only[List.map_inj_left]
           intro x _
           exact(sv_data x).symm
    · have HN:=hid (splitP_no2 h0 h2)
      generalize p.data.toList.count 47=n at*
      have HC:=hid hcn
      have h2':16 < n:=by omega
      clear hhp hcn h0 h1 h2
      go_enter Tryz.func74,Tryz.ntmps74
      go_wp2_with fail
      refine(HP.out _).mono ?_
      rintro e w1 ⟨rfl,rfl⟩
      go_wp2_with fail
      refine(HC.out _).mono ?_
      rintro e w2 ⟨rfl,rfl⟩
      go_wp2
      go_ret2
      exact splitPost_no HN.out rfl (Below.refl _ _)
def goodRune (r:Nat):Bool:=decide (r < 55296)||(decide (57344≤r) && decide (r≤1114111))
theorem valid_good (r:Nat):Utf8.valid (r:Int)=goodRune r:=by
 rw[Bool.eq_iff_iff];simp[Utf8.valid,goodRune];omega
theorem enc_1 {r:Nat} (h:r < 128):enc r=[UInt8.ofNat r]:=by
 have hv:Utf8.valid (r:Int)=true:=by rw[valid_good];simp[goodRune];omega
 rw[enc_eq,Utf8.encode]
 simp only[hv,if_true,Int.toNat_natCast]
 rw[if_pos h]
theorem enc_2 {r:Nat} (h1:¬ r < 128) (h:r < 2048):enc r=[UInt8.ofNat (192+r / 64),UInt8.ofNat (128+r % 64)]:=by
 have hv:Utf8.valid (r:Int)=true:=by rw[valid_good];simp[goodRune];omega
 rw[enc_eq,Utf8.encode]
 simp only[hv,if_true,Int.toNat_natCast]
 rw[if_neg h1,if_pos h]
theorem enc_3 {r:Nat} (hg:goodRune r=true) (h1:¬ r < 2048) (h:r < 65536):enc r=[UInt8.ofNat (224+r / 4096),UInt8.ofNat (128+r / 64 % 64),UInt8.ofNat (128+r % 64)]:=by
 have hv:Utf8.valid (r:Int)=true:=by rw[valid_good];exact hg
 rw[enc_eq,Utf8.encode]
 simp only[hv,if_true,Int.toNat_natCast]
 rw[if_neg (by omega),if_neg h1,if_pos h]
theorem enc_4 {r:Nat} (hg:goodRune r=true) (h1:¬ r < 65536):enc r=[UInt8.ofNat (240+r / 262144),UInt8.ofNat (128+r / 4096 % 64),UInt8.ofNat (128+r / 64 % 64),UInt8.ofNat (128+r % 64)]:=by
 have hv:Utf8.valid (r:Int)=true:=by rw[valid_good];exact hg
 rw[enc_eq,Utf8.encode]
 simp only[hv,if_true,Int.toNat_natCast]
 rw[if_neg (by omega),if_neg (by omega),if_neg h1]
theorem byte_ofNat {n:Nat} (h:n < 256):(UInt8.ofNat n).toNat=n:=by simp;omega
theorem byteN_0 (a:UInt8) (t:List UInt8):byteN (a::t) 0=a.toNat:=rfl
theorem byteN_1 (a b:UInt8) (t:List UInt8):byteN (a::b::t) 1=b.toNat:=rfl
theorem byteN_2 (a b c:UInt8) (t:List UInt8):byteN (a::b::c::t) 2=c.toNat:=rfl
theorem byteN_3 (a b c d:UInt8) (t:List UInt8):byteN (a::b::c::d::t) 3=d.toNat:=rfl
theorem ofNat_byte {a:UInt8} {n:Nat} (h:a.toNat=n):UInt8.ofNat n=a:=by rw[←h];simp
theorem enc_dec (l:List UInt8) (hne:l≠[]) (hb:¬ ((dec l).1=65533∧(dec l).2=1)):goodRune (dec l).1=true∧l.take (dec l).2=enc (dec l).1:=by
 have hn:1≤l.length:=by cases l with|nil=>exact absurd rfl hne|cons a t=>simp
 have h0:=byteN_lt l 0;have h1:=byteN_lt l 1;have h2:=byteN_lt l 2;have h3:=byteN_lt l 3
 revert hb
 generalize hd:dec l=d
 unfold dec Lib.decodeN at hd
 split at hd
 · subst hd;intro _
   obtain⟨a,t,rfl⟩:∃ a t,l=a::t:=by cases l with|nil=>exact absurd rfl hne|cons a t=>exact ⟨a,t,rfl⟩
   rw[byteN_0] at*
   refine⟨by simp[goodRune];omega,?_⟩
   rw[enc_1 (by omega)]
   simp
 split at hd
 · rename_i hx hy
   split at hd
   · subst hd;intro _
     obtain⟨a,b,t,rfl⟩:∃ a b t,l=a::b::t:=by
      rcases l with _|⟨a,_|⟨b,t⟩⟩
      · exact absurd rfl hne
      · exfalso;have:=hy.2.1;simp at this
      · exact⟨a,b,t,rfl⟩
     rw[byteN_0,byteN_1] at*
     refine⟨by simp[goodRune];omega,?_⟩
     rw[enc_2 (by omega) (by omega),ofNat_byte (a:=a) (by omega),ofNat_byte (a:=b) (by omega)]
     rfl
   · subst hd;intro hb;exact absurd ⟨rfl,rfl⟩ hb
 split at hd
 · rename_i hx hy hz
   split at hd
   · subst hd;intro _
     rename_i hq
     obtain⟨a,b,c,t,rfl⟩:∃ a b c t,l=a::b::c::t:=by
      rcases l with _|⟨a,_|⟨b,_|⟨c,t⟩⟩⟩
      · exact absurd rfl hne
      · exfalso;have:=hz.2.2.1;simp at this
      · exfalso;have:=hz.2.2.1;simp at this
      · exact⟨a,b,c,t,rfl⟩
     rw[byteN_0,byteN_1,byteN_2] at*
     have hg:goodRune (a.toNat % 16*4096+b.toNat % 64*64+c.toNat % 64)=true:=by simp[goodRune];omega
     refine⟨hg,?_⟩
     rw[enc_3 hg (by omega) (by omega),ofNat_byte (a:=a) (by omega),ofNat_byte (a:=b) (by omega),ofNat_byte (a:=c) (by omega)]
     rfl
   · subst hd;intro hb;exact absurd ⟨rfl,rfl⟩ hb
 split at hd
 · rename_i hx hy hz hu
   split at hd
   · subst hd;intro _
     rename_i hq
     obtain⟨a,b,c,e,t,rfl⟩:∃ a b c e t,l=a::b::c::e::t:=by
      rcases l with _|⟨a,_|⟨b,_|⟨c,_|⟨e,t⟩⟩⟩⟩
      · exact absurd rfl hne
      · exfalso;have:=hu.2.2.2.1;simp at this
      · exfalso;have:=hu.2.2.2.1;simp at this
      · exfalso;have:=hu.2.2.2.1;simp at this
      · exact⟨a,b,c,e,t,rfl⟩
     rw[byteN_0,byteN_1,byteN_2,byteN_3] at*
     have hg:goodRune (a.toNat % 8*262144+b.toNat % 64*4096+c.toNat % 64*64+e.toNat % 64)=true:=by simp[goodRune];omega
     refine⟨hg,?_⟩
     rw[enc_4 hg (by omega),ofNat_byte (a:=a) (by omega),ofNat_byte (a:=b) (by omega),ofNat_byte (a:=c) (by omega),ofNat_byte (a:=e) (by omega)]
     rfl
   · subst hd;intro hb;exact absurd ⟨rfl,rfl⟩ hb
 · subst hd;intro hb;exact absurd ⟨rfl,rfl⟩ hb
theorem encs_runes (l:List UInt8) (h:okB l=true):encs ((seg l).map (·.1))=l∧∀ r∈(seg l).map (·.1),goodRune r=true:=by
 induction l using seg_induct with
 |h0=>simp [encs]
 |h1 l hne ih=>
  have hb:=isBad_head l hne
  rw[okB,seg_cons l hne,List.all_cons,←okB,Bool.and_eq_true] at h
  have hg:¬ ((dec l).1=65533∧(dec l).2=1):=by
   intro e
   have:=h.1
   rw[hb,e.1,e.2] at this;simp at this
  obtain⟨g1,g2⟩:=enc_dec l hne hg
  obtain⟨i1,i2⟩:=ih h.2
  rw[seg_cons l hne]
  refine⟨?_,?_⟩
  · rw[List.map_cons,encs_cons,i1,←g2,List.take_append_drop]
  · intro r hr
    rw[List.map_cons] at hr
    rcases List.mem_cons.1 hr with rfl|hr
    · exact g1
    · exact i2 r hr
def runes (l:List UInt8):List Nat:=(seg l).map (·.1)
theorem runes_nil:runes []=[]:=rfl
theorem runes_cons (l:List UInt8) (h:l≠[]):runes l=(dec l).1::runes (l.drop (dec l).2):=by
 rw[runes,seg_cons l h];rfl
theorem runes_length (l:List UInt8):(runes l).length=count l:=by simp[runes,count]
abbrev Tabs (w:World):Prop:=Lib.Utf8Tabs 1 2 w
theorem Tabs.below {w w':World} (h:Tabs w) (hb:Below w.heap.size w w'):Tabs w':=by
 obtain⟨h1,h2⟩:=h
 have k1:=World.block_lt_of_cell? _ _ (h1 0 (by omega))
 have k2:=World.block_lt_of_cell? _ _ (h2 0 (by omega)).1
 refine⟨fun c hc=>?_,fun i hi=>⟨?_,?_⟩⟩
 · rw[hb.cell (p:=⟨1,c,none⟩) k1];exact h1 c hc
 · rw[hb.cell (p:=⟨2,2*i,none⟩) k2];exact(h2 i hi).1
 · rw[hb.cell (p:=⟨2,2*i+1,none⟩) k2];exact(h2 i hi).2
def refRune (l:List UInt8):Nat×Nat:=if l=[] then(0,0) else if (dec l).1=65533∧(dec l).2=1 then(0,0) else dec l
theorem decode0 (s:ByteArray):Utf8.decode s 0=dec s.data.toList:=by rw[decode_drop];rfl
theorem ref_rune (s:ByteArray) (w:World) (hT:Tabs w):
 Calls Tryz.prog 112 #[.string s] w fun e w'=>e= .returned (.tuple #[.int .i32 (refRune s.data.toList).1,.int .i64 (refRune s.data.toList).2])∧Below w.heap.size w w':=by
 have h1:=Tryz.utf8_DecodeRuneInString s w hT
 have hsz:=Lib.size_eq s
 unfold Lib.decodeGo at h1
 rw[decode0] at h1
 by_cases he:s.data.toList=[]
 · have hs0:s.size=0:=by rw[hsz,he];rfl
   rw[if_pos hs0] at h1
   have HF:Hid (refRune s.data.toList=(0,0)):=hid (by rw[refRune,if_pos he])
   clear he hs0 hsz
   go_enter Tryz.func112,Tryz.ntmps112
   go_wp2_with fail
   refine h1.mono ?_
   rintro e w1 ⟨rfl,hb1⟩
   go_wp2
   go_ret2
   exact⟨by rw[HF.out];rfl,hb1⟩
 · have hs0:s.size≠0:=by rw[hsz];intro h;exact he (List.eq_nil_of_length_eq_zero h)
   rw[if_neg hs0] at h1
   have hw:=dec_width _ he
   by_cases hbad:(dec s.data.toList).1=65533∧(dec s.data.toList).2=1
   · have HF:Hid (refRune s.data.toList=(0,0)):=hid (by rw[refRune,if_neg he,if_pos hbad])
     rw[hbad.1,hbad.2] at h1
     clear he hs0 hsz hbad hw
     go_enter Tryz.func112,Tryz.ntmps112
     go_wp2_with fail
     refine h1.mono ?_
     rintro e w1 ⟨rfl,hb1⟩
     go_wp2
     go_ret2
     exact⟨by rw[HF.out];rfl,hb1⟩
   · have HF:Hid (refRune s.data.toList=dec s.data.toList):=hid (by rw[refRune,if_neg he,if_neg hbad])
     generalize dec s.data.toList=d at*
     obtain⟨r,q⟩:=d
     dsimp only at*
     by_cases hr:r=65533
     · have hq:1 < q:=by omega
       have br:((r:Int)==65533)=true:=by rw[beq_iff_eq];omega
       have bq:decide ((q:Int)≤1)=false:=by simp;omega
       clear he hs0 hsz hbad hr
       go_enter Tryz.func112,Tryz.ntmps112
       go_wp2_with fail
       refine h1.mono ?_
       rintro e w1 ⟨rfl,hb1⟩
       go_wp2
       go_ret2
       exact⟨by rw[HF.out];rfl,hb1⟩
     · have br:((r:Int)==65533)=false:=by rw[beq_eq_false_iff_ne];omega
       clear he hs0 hsz hbad hr
       go_enter Tryz.func112,Tryz.ntmps112
       go_wp2_with fail
       refine h1.mono ?_
       rintro e w1 ⟨rfl,hb1⟩
       go_wp2
       go_ret2
       exact⟨by rw[HF.out];rfl,hb1⟩
def rv (r:Nat):Value:= .int .i32 (r:Int)
theorem infoInt32:(Tryz.prog.info? 21).map (fun i=>(i.zero,i.size,i.bytes))=some (some (.int .i32 0),1,4):=by kernel_rfl
theorem own_ge {w:World} {base:Nat} {e:TypeId} {size:Nat} {v:Value} {n:Nat} {xs:List Value} (h:w.ownsRow base e size v n xs):∀ k,v.ownBlock=some k→base≤k:=by
 intro k hk
 obtain⟨_,⟨rfl,_⟩|⟨g,cap,cur,rfl,hg,_⟩⟩:=h
 · simp[Value.ownBlock] at hk
 · simp[Value.ownBlock] at hk;omega
theorem ownsRow_below {w w':World} {base:Nat} {e:TypeId} {size:Nat} {v:Value} {n:Nat} {xs:List Value} (h:w.ownsRow base e size v n xs) (hb:Below w.heap.size w w'):w'.ownsRow base e size v n xs:=by
 obtain⟨h1,h2⟩:=h
 refine⟨h1,?_⟩
 rcases h2 with h2|⟨g,cap,cur,a,b,c,d⟩
 · exact .inl h2
 · exact .inr ⟨g,cap,cur,a,b,by rw[hb.block g (Array.getElem?_eq_some_iff.1 c).1];exact c,d⟩
def RunesPost (l:List UInt8) (w:World) (e:Ending) (w':World):Prop:=
 ∃ v,e= .returned (.tuple #[v,.bool (okB l)])∧w'.ownsRow w.heap.size 21 1 v (if okB l then(runes l).length else 0) (if okB l then(runes l).map rv else [])∧Below w.heap.size w w'
theorem runesPost_no {l:List UInt8} {w w':World} {e:Ending} (h:okB l=false) (he:e= .returned (.tuple #[.slice none 0 0,.bool false])) (hb:Below w.heap.size w w'):RunesPost l w e w':=
 ⟨.slice none 0 0,by rw[he,h],by rw[h];exact⟨rfl,.inl ⟨rfl,rfl⟩⟩,hb⟩
theorem ref_runes (s:ByteArray) (w:World) (hT:Tabs w) (hs:s.size≤17592186044416):
 Calls Tryz.prog 101 #[.string s] w (RunesPost s.data.toList w):=by
 obtain⟨i0,hi,hz0,hz1,hz2⟩:=info_parts infoInt32
 go_enter Tryz.func101,Tryz.ntmps101
 go_wp2
 go_loopw [0,4] (fun s0 s4 wr=>∃ (rest:ByteArray) (xs:List Nat),s0= .string rest∧rest.size≤s.size∧xs.length+rest.size≤s.size∧wr.ownsRow w.heap.size 21 1 s4 xs.length (xs.map rv)∧
  xs++runes rest.data.toList=runes s.data.toList∧okB s.data.toList=okB rest.data.toList∧Below w.heap.size w wr) (fun s0 _ _=>match s0 with| .string r=>r.size|_=>0)
 case atStart=>exact ⟨s,[],rfl,Nat.le_refl _,by simp,⟨rfl,.inl ⟨rfl,rfl⟩⟩,rfl,rfl,Below.refl _ _⟩
 case round=>
  obtain⟨rest,xs,rfl,hrs,hxl,hown,happ,hok,hbw⟩:=hrel
  have hsz:=Lib.size_eq rest
  by_cases he:rest.data.toList=[]
  · have hs0:rest.size=0:=by rw[hsz,he];rfl
    have hok':okB s.data.toList=true:=by rw[hok,he];rfl
    rw[he,runes_nil,List.append_nil] at happ
    have HO:=hid hok';have HA:=hid happ
    clear hok hok' happ he hsz
    go_wp2
    go_ret2
    exact⟨_,by rw[HO.out];rfl,by rw[HO.out,if_pos rfl,if_pos rfl,←HA.out];exact hown,hbw⟩
  · have hs0:0 < rest.size:=by rw[hsz];exact List.length_pos_iff.2 he
    have hr:=ref_rune rest wr (hT.below hbw)
    have hw:=dec_width _ he
    by_cases hbad:(dec rest.data.toList).1=65533∧(dec rest.data.toList).2=1
    · have hok':okB s.data.toList=false:=by
       rw[hok,okB,seg_cons _ he,List.all_cons,isBad_head _ he,hbad.1,hbad.2];rfl
      have e1:refRune rest.data.toList=(0,0):=by rw[refRune,if_neg he,if_pos hbad]
      rw[e1] at hr
      have HO:=hid hok';have HR:=hid hr
      clear hok hok' happ he hsz hbad hr e1
      go_wp2_with fail
      refine HR.out.mono ?_
      rintro e w1 ⟨rfl,hb1⟩
      go_wp2
      go_ret2
      exact runesPost_no HO.out rfl (hbw.trans (hb1.mono hbw.size))
    · have e1:refRune rest.data.toList=dec rest.data.toList:=by rw[refRune,if_neg he,if_neg hbad]
      have hgood:okB rest.data.toList=okB (rest.data.toList.drop (dec rest.data.toList).2):=okB_good _ he (fun h=>by
       rw[bad_iff _ h];have:(dec rest.data.toList).2≠1:=fun q=>hbad ⟨h,q⟩;simp[this])
      have hdb:=dec_bound rest.data.toList
      rw[runes_cons _ he] at happ
      rw[e1] at hr
      rw[hgood] at hok
      rw[←hsz] at hw
      have hx:∀ q,q≤rest.size→(rest.extract q rest.size).data.toList=rest.data.toList.drop q:=fun q hq=>by
       rw[Lib.extract_data];exact List.take_of_length_le (by rw[List.length_drop,Lib.size_eq];omega)
      generalize dec rest.data.toList=d at*
      obtain⟨r,q⟩:=d
      dsimp only at*
      have hx':=hx q hw.2.1
      have bq:((q:Int)==0)=false:=by rw[beq_eq_false_iff_ne];omega
      have HO:=hid hok;have HR:=hid hr;have HA:=hid happ;have HX:=hid hx';have HZ:=hid hsz
      clear hok happ he hsz hbad hr e1 hgood hx hx'
      go_wp2_with fail
      refine HR.out.mono ?_
      rintro e w1 ⟨rfl,hb1⟩
      have hown1:=ownsRow_below hown hb1
      have hbw1:=hbw.trans (hb1.mono hbw.size)
      have hs1:=hbw1.size
      clear hown hb1 hbw
      go_wp2_with (at_builtin;refine wpList_append_own _ rfl _ _ 165 rfl w.heap.size 21 i0 (.int .i32 0) 1 4 Tryz.underlying165 hi hz0 hz1 hz2 rfl (by decide) _ _ _ rfl (hown1.alloc _) ⟨w1.heap.size,0,none⟩ 1 1 [.int .i32 r] rfl rfl ?c1 ?c2 ?c3 ?c4 ?c5 ?_)
      case c1=>exact cell_one_new _ _ _
      case c2=>intro u hu;simp at hu;subst hu;rfl
      case c3=>unfold maxLen;omega
      case c4=>omega
      case c5=>simp;omega
      · intro v' w2 hown' hgrow _
        go_wp2
        go_roundw
        case rel=>
         refine⟨rest.extract q rest.size,xs++[r],rfl,by rw[ByteArray.size_extract];omega,by rw[ByteArray.size_extract];simp;omega,by simpa [rv] using hown',by rw[HX.out,←HA.out];simp,by rw[HO.out,HX.out],?_⟩
         exact(hbw1.alloc hs1 _).grown hgrow (by simp;omega) (fun k hk=>own_ge hown1 k hk)
        case measure=>
         show(rest.extract q rest.size).size < rest.size
         rw[ByteArray.size_extract];omega
theorem row_cells {w:World} {base:Nat} {v:Value} {rs:List Nat} (h:w.ownsRow base 21 1 v rs.length (rs.map rv)) (hne:rs≠[]):
 ∃ g cap,v= .slice (some ⟨g,0,none⟩) rs.length cap∧g < w.heap.size∧∀ (j r:Nat),rs[j]? =some r→w.cell? ⟨g,j,none⟩=some (.int .i32 (r:Int)):=by
 obtain⟨hl,⟨rfl,h0⟩|⟨g,cap,cur,rfl,hg,hh,hn,hcap,hsz,ht⟩⟩:=h
 · exact absurd (List.eq_nil_of_length_eq_zero h0) hne
 · refine⟨g,cap,rfl,(Array.getElem?_eq_some_iff.1 hh).1,fun j r hj=>?_⟩
   have hj':j < rs.length:=(List.getElem?_eq_some_iff.1 hj).1
   have e:cur[j]? =some (rv r):=by
    have:=congrArg (fun l=>l[j]?) ht
    simp only[List.getElem?_map,hj,Option.map_some] at this
    rw[List.getElem?_take_of_lt (by omega),Array.getElem?_toList] at this
    exact this
   unfold rv at e
   simp only[World.cell?,hh]
   simpa using e
theorem runesFine_runes (l:List UInt8):runesFine l=(runes l).all fine:=by
 simp only[runesFine,runes,List.all_map];rfl
theorem chkN_no {l:List UInt8} (h:lenFine l=false):chkN l=10:=by rw[chkN,chk,h];rfl
theorem ref_check (s:ByteArray) (w:World) (hT:Tabs w):
 Calls Tryz.prog 87 #[.string s] w fun e w'=>e= .returned (.int .i64 (chkN s.data.toList))∧Below w.heap.size w w':=by
 have hsz:=Lib.size_eq s
 by_cases h1:s.size < 1
 · have HF:Hid (chkN s.data.toList=10):=hid (chkN_no (by
    have:s.data.toList=[]:=List.eq_nil_of_length_eq_zero (by omega)
    rw[this];rfl))
   clear hsz
   go_enter Tryz.func87,Tryz.ntmps87
   go_wp2
   go_ret
   exact⟨by rw[HF.out];rfl,Below.refl _ _⟩
 by_cases h2:255 < s.size
 · have HF:Hid (chkN s.data.toList=10):=hid (chkN_no (by
    have:decide (s.data.toList.length≤255)=false:=by simp only[decide_eq_false_iff_not];omega
    rw[lenFine,this];simp))
   have h1':1≤s.size:=by omega
   clear hsz h1
   go_enter Tryz.func87,Tryz.ntmps87
   go_wp2
   go_ret
   exact⟨by rw[HF.out];rfl,Below.refl _ _⟩
 have h1':1≤s.size:=by omega
 have h2':s.size≤255:=by omega
 clear h1 h2
 cases h3:s.toList==[46] with
 |true=>
  have HF:Hid (chkN s.data.toList=10):=hid (by
   have e:s.data.toList=[46]:=by rw[←Lib.toList_data];simpa using h3
   rw[e];decide)
  clear hsz
  go_enter Tryz.func87,Tryz.ntmps87
  go_wp2
  go_ret
  exact⟨by rw[HF.out];rfl,Below.refl _ _⟩
 |false=>
 cases h4:s.toList==[46,46] with
 |true=>
  have HF:Hid (chkN s.data.toList=10):=hid (by
   have e:s.data.toList=[46,46]:=by rw[←Lib.toList_data];simpa using h4
   rw[e];decide)
  clear hsz
  go_enter Tryz.func87,Tryz.ntmps87
  go_wp2
  go_ret
  exact⟨by rw[HF.out];rfl,Below.refl _ _⟩
 |false=>
 have hr:=ref_runes s w hT (by omega)
 cases h5:okB s.data.toList with
 |false=>
  have HF:Hid (chkN s.data.toList=10):=hid (chkN_no (by rw[lenFine,h5];rfl))
  unfold RunesPost at hr
  rw[h5] at hr
  have HR:=hid hr
  clear hsz hr h5
  go_enter Tryz.func87,Tryz.ntmps87
  go_wp2_with fail
  refine HR.out.mono ?_
  rintro e w1 ⟨v,rfl,ho,hb⟩
  go_wp2
  go_ret
  exact⟨by rw[HF.out];rfl,hb⟩
 |true=>
  have hn1:1≤(runes s.data.toList).length:=by
   rw[runes_length,count_cons _ (by intro e;have:=congrArg List.length e;rw[List.length_nil] at this;omega)];omega
  have hn2:(runes s.data.toList).length≤255:=by rw[runes_length];have:=count_le s.data.toList;omega
  have hlf:lenFine s.data.toList=decide ((runes s.data.toList).length≤64):=by
   rw[Lib.toList_data] at h3 h4
   rw[lenFine,h5,h3,h4,←runes_length]
   have a1:decide (1≤(runes s.data.toList).length)=true:=by simpa using hn1
   have a2:decide (s.data.toList.length≤255)=true:=by simp;omega
   rw[a1,a2];simp
  have hrf:=runesFine_runes s.data.toList
  unfold RunesPost at hr
  rw[h5] at hr
  simp only[if_true] at hr
  generalize hrs:runes s.data.toList=rs at*
  have HR:=hid hr;have HRF:=hid hrf;have HLF:=hid hlf
  clear hsz hr h5 hrs hrf hlf
  by_cases h6:64 < rs.length
  · have HF:Hid (chkN s.data.toList=10):=hid (chkN_no (by rw[HLF.out];simp;omega))
    go_enter Tryz.func87,Tryz.ntmps87
    go_wp2_with fail
    refine HR.out.mono ?_
    rintro e w1 ⟨v,rfl,ho,hb⟩
    obtain⟨g,cap,rfl,hg,hcell⟩:=row_cells ho (by intro e;rw[e] at hn1;simp at hn1)
    clear ho hcell
    go_wp2
    go_ret
    exact⟨by rw[HF.out];rfl,hb⟩
  · have h6':rs.length≤64:=by omega
    clear h6
    go_enter Tryz.func87,Tryz.ntmps87
    go_wp2_with fail
    refine HR.out.mono ?_
    rintro e w1 ⟨v,rfl,ho,hb⟩
    obtain⟨g,cap,rfl,hg,hcell⟩:=row_cells ho (by intro e;rw[e] at hn1;simp at hn1)
    have HC:=hid hcell
    clear ho hcell
    go_wp2
    go_loop [5] (fun s5=>∃ k:Nat,k≤rs.length∧s5= .int .i64 k∧(∀ (j r:Nat),j < k→rs[j]? =some r→fine r=true)) (fun s5=>rs.length - (intOf s5).toNat)
    case atStart=>exact ⟨0,by omega,rfl,fun j r h=>by omega⟩
    case round=>
     obtain⟨k,hk,rfl,hall⟩:=hrel
     have HA:=hid hall
     clear hall
     by_cases hlt:k < rs.length
     · obtain⟨r,hkr⟩:∃ r,rs[k]? =some r:=⟨rs[k],List.getElem?_eq_getElem hlt⟩
       have hc:=HC.out k r hkr
       have HK:=hid hkr
       clear hkr
       cases hf:fine r with
       |true=>
        have HFN:=hid hf
        have hn1:¬ r < 32∧¬ r=127∧¬ r=47:=by simpa [fine,and_assoc] using hf
        have t2:((r:Int)==127)=false:=by rw[beq_eq_false_iff_ne];omega
        have t3:((r:Int)==47)=false:=by rw[beq_eq_false_iff_ne];omega
        have t1:32≤r:=by omega
        clear hf hn1
        go_wp2
        go_round
        case rel=>
         refine⟨k+1,by omega,by go_num,fun j x hj hjx=>?_⟩
         by_cases e:j=k
         · subst e;rw[HK.out] at hjx;cases hjx;exact HFN.out
         · exact HA.out j x (by omega) hjx
        case measure=>simp [intOf];omega
       |false=>
        have HF:Hid (chkN s.data.toList=10):=hid (by
         have:rs.all fine=false:=by
          rw[List.all_eq_false];exact⟨r,List.mem_of_getElem? HK.out,by simp[hf]⟩
         rw[chkN,chk,HRF.out,this];simp)
        have hn1:r < 32∨r=127∨r=47:=by
         by_cases a:r < 32∨r=127∨r=47
         · exact a
         · exfalso;have:fine r=true:=by {simp [fine];omega}
           rw[this] at hf;cases hf
        clear hf
        rcases hn1 with t1|rfl|rfl
        all_goals
         go_wp2
         go_ret
         exact⟨by rw[HF.out];rfl,hb⟩
     · have HF:Hid (chkN s.data.toList=0):=hid (by
        have:rs.all fine=true:=by
         rw[List.all_eq_true]
         intro x hx
         obtain⟨j,hj,e⟩:=List.getElem_of_mem hx
         exact HA.out j x (by omega) (by rw[List.getElem?_eq_getElem hj,e])
        have h64:decide (rs.length≤64)=true:=by simpa using h6'
        rw[chkN,chk,HRF.out,HLF.out,this,h64];rfl)
       go_wp2
       go_ret
       exact⟨by rw[HF.out];rfl,hb⟩
theorem len_of_owns {w:World} {base:Nat} {e:TypeId} {size:Nat} {v:Value} {n:Nat} {xs:List Value} (h:w.ownsRow base e size v n xs):∃ a c,v= .slice a n c:=by
 obtain⟨h1,⟨rfl,h2⟩|⟨g,cap,cur,rfl,_⟩⟩:=h
 · subst h2;exact⟨none,0,rfl⟩
 · exact⟨_,_,rfl⟩
theorem infoStr:(Tryz.prog.info? 9).map (fun i=>(i.zero,i.size,i.bytes))=some (some (.string ByteArray.empty),1,16):=by kernel_rfl
structure Cut (p:List UInt8) (xs:List (List UInt8)) (fr i:Nat):Prop where
 le:fr≤i
 one:1≤fr
 top:i≤p.length+1
 len:xs.length≤16
 chks:∀ x∈xs,chk x=true
 none:∀ c∈(p.drop fr).take (i - fr),c≠47
 yet:i≤p.length→parts (p.drop 1)=xs++parts (p.drop fr)
 done:i=p.length+1→parts (p.drop 1)=xs
theorem cut_zero (p:List UInt8) (h:1≤p.length):Cut p [] 1 1:=⟨by omega,by omega,by omega,by simp,by simp,by simp,fun _=>rfl,fun h=>by omega⟩
theorem take_succ_drop {p:List UInt8} {fr i:Nat} {c:UInt8} (h:p[i]? =some c) (hle:fr≤i):(p.drop fr).take (i+1 - fr)=(p.drop fr).take (i - fr)++[c]:=by
 rw[show i+1 - fr=(i - fr)+1 by omega,List.take_add_one,List.getElem?_drop,show fr+(i - fr)=i by omega,h];rfl
theorem drop_atB {p:List UInt8} {i:Nat} {c:UInt8} (h:p[i]? =some c):p.drop i=c::p.drop (i+1):=by
 obtain⟨hi,e⟩:=List.getElem?_eq_some_iff.1 h
 rw[List.drop_eq_getElem_cons hi,e]
theorem cut_go {p:List UInt8} {xs:List (List UInt8)} {fr i:Nat} {c:UInt8} (h:Cut p xs fr i) (hc:p[i]? =some c) (hne:c≠47):Cut p xs fr (i+1):=by
 have hi:i < p.length:=(List.getElem?_eq_some_iff.1 hc).1
 refine⟨by have:=h.le;omega,h.one,by omega,h.len,h.chks,?_,fun _=>h.yet (by omega),fun e=>by omega⟩
 rw[take_succ_drop hc h.le]
 intro x hx
 rcases List.mem_append.1 hx with hx|hx
 · exact h.none x hx
 · simp at hx;subst hx;exact hne
theorem cut_name {p:List UInt8} {xs:List (List UInt8)} {fr i:Nat} (h:Cut p xs fr i) (hb:i=p.length∨p[i]? =some 47):
 parts (p.drop 1)=xs++(p.drop fr).take (i - fr)::(if i=p.length then [] else parts (p.drop (i+1))):=by
 rcases hb with hb|hb
 · rw[if_pos hb,h.yet (by omega)]
   have e:(p.drop fr).take (i - fr)=p.drop fr:=List.take_of_length_le (by rw[List.length_drop];omega)
   rw[e]
   have hn:=h.none
   rw[e] at hn
   rw[parts_none _ hn]
 · have hi:i < p.length:=(List.getElem?_eq_some_iff.1 hb).1
   rw[if_neg (by omega),h.yet (by omega)]
   have e:p.drop fr=(p.drop fr).take (i - fr)++47::p.drop (i+1):=by
    have h1:=List.take_append_drop (i - fr) (p.drop fr)
    rw[List.drop_drop,show fr+(i - fr)=i by have:=h.le;omega] at h1
    have h2:=drop_atB hb
    rw[h2] at h1
    exact h1.symm
   conv=>lhs;rw[e,parts_hit _ _ h.none]
theorem cut_next {p:List UInt8} {xs:List (List UInt8)} {fr i:Nat} (h:Cut p xs fr i) (hb:i=p.length∨p[i]? =some 47) (hl:xs.length < 16) (hc:chk ((p.drop fr).take (i - fr))=true):
 Cut p (xs++[(p.drop fr).take (i - fr)]) (i+1) (i+1):=by
 have hn:=cut_name h hb
 have hi:i≤p.length:=by
  rcases hb with hb|hb
  · omega
  · have:=(List.getElem?_eq_some_iff.1 hb).1;omega
 refine⟨by omega,by omega,by omega,by simp;omega,?_,by simp,fun e=>?_,fun e=>?_⟩
 · intro x hx
   rcases List.mem_append.1 hx with hx|hx
   · exact h.chks x hx
   · simp at hx;subst hx;exact hc
 · rw[hn,if_neg (by omega)];simp
 · rw[hn,if_pos (by omega)]
theorem ref_split (p:ByteArray) (w:World) (hT:Tabs w) (hs:p.size≤4611686018427387904):
 Calls Tryz.prog 68 #[.string p] w (SplitPost p.data.toList w):=by
 obtain⟨i0,hi,hz0,hz1,hz2⟩:=info_parts infoStr
 have hsz:=Lib.size_eq p
 by_cases h0:p.data.toList=[47]
 · have h0':(p.toList==[47])=true:=by rw[Lib.toList_data];simpa using h0
   have hend:∀ w',Below w.heap.size w w'→SplitPost p.data.toList w (.returned (.tuple #[.slice none 0 0,.int .i64 0])) w':=by
    intro w' hb
    have hp:splitP p.data.toList=some []:=by rw[splitP,if_pos h0]
    refine⟨.slice none 0 0,by rw[splitE,hp];rfl,?_,hb⟩
    rw[splitL,hp];exact⟨rfl,.inl ⟨rfl,rfl⟩⟩
   have HE:=hid hend
   clear h0 hend hsz
   go_enter Tryz.func68,Tryz.ntmps68
   go_wp2
   go_ret2
   exact HE.out _ (Below.refl _ _)
 have h0':(p.toList==[47])=false:=by rw[Lib.toList_data];simpa using h0
 by_cases h1:p.data.toList=[]
 · have h1':p.toList.isEmpty=true:=by rw[Lib.toList_data,h1];rfl
   have HN:=hid (splitP_no1 h0 (by rw[h1];rfl))
   clear hsz h1 h0
   go_enter Tryz.func68,Tryz.ntmps68
   go_wp2
   go_ret2
   exact splitPost_no HN.out rfl (Below.refl _ _)
 have h1':p.toList.isEmpty=false:=by
  rw[Lib.toList_data]
  cases h:p.data.toList with
  |nil=>exact absurd h h1
  |cons _ _=>rfl
 have hps:0 < p.size:=by rw[hsz];exact List.length_pos_iff.2 h1
 have hp0:p.data.toList[0]? =some p[0]:=by
  rw[List.getElem?_eq_getElem (by omega)];exact congrArg some (Array.getElem_toList (xs:=p.data) hps)
 by_cases h2:p[0]=47
 · have hb2:((p[0].toNat:Int) !=47)=false:=by rw[h2];rfl
   have hpre:Lib.hasPrefix p.data.toList [47]=true:=(hasPrefix_one _).2 (by
    cases h:p.data.toList with
    |nil=>exact absurd h h1
    |cons a t=>rw [h] at hp0;simp at hp0;exact⟨t,by rw[hp0,h2]⟩)
   have hcz:=cut_zero p.data.toList (by omega)
   have hcount:p.data.toList.count 47=(parts (p.data.toList.drop 1)).length:=by
    obtain⟨t,e⟩:=(hasPrefix_one _).1 hpre
    rw[parts_count,e];simp
   have H0:=hid h0;have HPRE:=hid hpre;have HZ:=hid hsz;have HCZ:=hid hcz;have HCO:=hid hcount
   clear h0 h1 hp0 h2 hpre hsz hcz hcount
   go_enter Tryz.func68,Tryz.ntmps68
   go_wp2
   go_loopw [4,5,6] (fun s4 s5 s6 wr=>∃ (xs:List (List UInt8)) (fr i:Nat),s5= .int .i64 fr∧s6= .int .i64 i∧Cut p.data.toList xs fr i∧
    wr.ownsRow w.heap.size 9 1 s4 xs.length (xs.map sv)∧Below w.heap.size w wr) (fun _ _ s6 _=>p.size+1 - (intOf s6).toNat)
   case atStart=>exact ⟨[],1,1,rfl,rfl,HCZ.out,⟨rfl,.inl ⟨rfl,rfl⟩⟩,Below.refl _ _⟩
   case round=>
    obtain⟨xs,fr,i,rfl,rfl,hcut,hown,hbw⟩:=hrel
    have hle:=hcut.le
    have hone:=hcut.one
    have htop:i≤p.size+1:=by have:=hcut.top;have:=HZ.out;omega
    have hx16:=hcut.len
    obtain⟨a4,c4,rfl⟩:=len_of_owns hown
    have HCUT:=hid hcut
    clear hcut
    by_cases hi1:i≤p.size
    · by_cases hgo:∃ c,p.data.toList[i]? =some c∧c≠47
      · obtain⟨c,hc,hne⟩:=hgo
        have hlt:i < p.size:=by rw[HZ.out];exact(List.getElem?_eq_some_iff.1 hc).1
        have hpi:p[i]=c:=by
         have h:=(List.getElem?_eq_some_iff.1 hc).2
         rw[←h];exact(Array.getElem_toList (xs:=p.data) hlt).symm
        have hbne:((c.toNat:Int) !=47)=true:=by
         rw[bne_iff_ne];intro e;exact hne (UInt8.toNat_inj.1 (by show _=47;omega))
        have HN:=hid (cut_go HCUT.out hc hne)
        clear hc hne
        go_wp2
        go_roundw
        case rel=>exact ⟨xs,fr,i+1,rfl,by go_num,HN.out,hown,hbw⟩
        case measure=>simp [intOf];omega
      · have hb:i=p.data.toList.length∨p.data.toList[i]? =some 47:=by
         by_cases e:i=p.size
         · left;rw[←HZ.out];exact e
         · right
           have hl:i < p.data.toList.length:=by have:=HZ.out;omega
           rw[List.getElem?_eq_getElem hl]
           by_cases e2:p.data.toList[i]=47
           · rw[e2]
           · exact absurd ⟨_,List.getElem?_eq_getElem hl,e2⟩ hgo
        have HB:=hid hb
        have hnm:=cut_name HCUT.out hb
        have HNM:=hid hnm
        have hx:(p.extract fr i).data.toList=(p.data.toList.drop fr).take (i - fr):=Lib.extract_data p fr i
        have HX:=hid hx
        have hch:=fun w hT=>ref_check (p.extract fr i) w hT
        rw[hx] at hch
        -- the three facts that decide the guard
        have hd:(i=p.size∧decide ((i:Int) < p.size)=false)∨(∃ h:i < p.size,((p[i].toNat:Int) !=47)=false):=by
         rcases hb with hb|hb
         · left;have:=HZ.out;exact⟨by omega,by simp;omega⟩
         · right
           have hl:i < p.size:=by rw[HZ.out];exact(List.getElem?_eq_some_iff.1 hb).1
           refine⟨hl,?_⟩
           have h:=(List.getElem?_eq_some_iff.1 hb).2
           have:p[i]=47:=by rw[←h];exact(Array.getElem_toList (xs:=p.data) hl).symm
           rw[this];rfl
        clear hgo hb hnm hx
        rcases hd with⟨hie,hde⟩|⟨hil,hpe⟩
        · subst hie
          by_cases hl:xs.length=16
          · have bl:((xs.length:Int)==16)=true:=by rw[beq_iff_eq];omega
            have HN:=hid (splitP_no2 H0.out (by
             rw[HCO.out,HNM.out,List.length_append,List.length_cons];omega))
            clear hl hch
            go_wp2
            go_ret2
            exact splitPost_no HN.out rfl hbw
          · have bl:((xs.length:Int)==16)=false:=by rw[beq_eq_false_iff_ne];omega
            have hl16:xs.length < 16:=by omega
            cases hcb:chk ((p.data.toList.drop fr).take (p.size - fr)) with
            |false=>
             have e1:chkN ((p.data.toList.drop fr).take (p.size - fr))=10:=by rw[chkN,hcb];rfl
             rw[e1] at hch
             have HN:=hid (splitP_no3 (n:=(p.data.toList.drop fr).take (p.size - fr)) H0.out (by rw[HNM.out];simp) hcb)
             have HCH:=hid hch
             clear hl hch e1 hcb
             go_wp2_with fail
             refine(HCH.out _ (hT.below hbw)).mono ?_
             rintro e w1 ⟨rfl,hb1⟩
             go_wp2
             go_ret2
             exact splitPost_no HN.out rfl (hbw.trans (hb1.mono hbw.size))
            |true=>
             have e1:chkN ((p.data.toList.drop fr).take (p.size - fr))=0:=by rw[chkN,hcb];rfl
             rw[e1] at hch
             have HNX:=hid (cut_next HCUT.out HB.out hl16 hcb)
             have HCH:=hid hch
             clear hl hch e1 hcb
             go_wp2_with fail
             refine(HCH.out _ (hT.below hbw)).mono ?_
             rintro e w1 ⟨rfl,hb1⟩
             have hown1:=ownsRow_below hown hb1
             have hbw1:=hbw.trans (hb1.mono hbw.size)
             have hs1:=hbw1.size
             clear hown hb1 hbw
             go_wp2_with (at_builtin;refine wpList_append_own _ rfl _ _ 57 rfl w.heap.size 9 i0 (.string ByteArray.empty) 1 16 Tryz.underlying57 hi hz0 hz1 hz2 rfl (by decide) _ _ _ rfl (hown1.alloc _) ⟨w1.heap.size,0,none⟩ 1 1 [.string (p.extract fr p.size)] rfl rfl ?c1 ?c2 ?c3 ?c4 ?c5 ?_)
             case c1=>exact cell_one_new _ _ _
             case c2=>intro u hu;simp at hu;subst hu;rfl
             case c3=>unfold maxLen;omega
             case c4=>omega
             case c5=>simp;omega
             · intro v' w2 hown' hgrow _
               go_wp2
               go_roundw
               case rel=>
                refine⟨xs++[(p.data.toList.drop fr).take (p.size - fr)],p.size+1,p.size+1,by go_num,by go_num,HNX.out,?_,?_⟩
                · have e:sv ((p.data.toList.drop fr).take (p.size - fr))= .string (p.extract fr p.size):=by rw[←HX.out,sv_data]
                  rw[List.map_append,List.map_cons,List.map_nil,e]
                  simpa using hown'
                · exact(hbw1.alloc hs1 _).grown hgrow (by simp;omega) (fun k hk=>own_ge hown1 k hk)
               case measure=>simp [intOf]
        · by_cases hl:xs.length=16
          · have bl:((xs.length:Int)==16)=true:=by rw[beq_iff_eq];omega
            have HN:=hid (splitP_no2 H0.out (by
             rw[HCO.out,HNM.out,List.length_append,List.length_cons];omega))
            clear hl hch
            go_wp2
            go_ret2
            exact splitPost_no HN.out rfl hbw
          · have bl:((xs.length:Int)==16)=false:=by rw[beq_eq_false_iff_ne];omega
            have hl16:xs.length < 16:=by omega
            cases hcb:chk ((p.data.toList.drop fr).take (i - fr)) with
            |false=>
             have e1:chkN ((p.data.toList.drop fr).take (i - fr))=10:=by rw[chkN,hcb];rfl
             rw[e1] at hch
             have HN:=hid (splitP_no3 (n:=(p.data.toList.drop fr).take (i - fr)) H0.out (by rw[HNM.out];simp) hcb)
             have HCH:=hid hch
             clear hl hch e1 hcb
             go_wp2_with fail
             refine(HCH.out _ (hT.below hbw)).mono ?_
             rintro e w1 ⟨rfl,hb1⟩
             go_wp2
             go_ret2
             exact splitPost_no HN.out rfl (hbw.trans (hb1.mono hbw.size))
            |true=>
             have e1:chkN ((p.data.toList.drop fr).take (i - fr))=0:=by rw[chkN,hcb];rfl
             rw[e1] at hch
             have HNX:=hid (cut_next HCUT.out HB.out hl16 hcb)
             have HCH:=hid hch
             clear hl hch e1 hcb
             go_wp2_with fail
             refine(HCH.out _ (hT.below hbw)).mono ?_
             rintro e w1 ⟨rfl,hb1⟩
             have hown1:=ownsRow_below hown hb1
             have hbw1:=hbw.trans (hb1.mono hbw.size)
             have hs1:=hbw1.size
             clear hown hb1 hbw
             go_wp2_with (at_builtin;refine wpList_append_own _ rfl _ _ 57 rfl w.heap.size 9 i0 (.string ByteArray.empty) 1 16 Tryz.underlying57 hi hz0 hz1 hz2 rfl (by decide) _ _ _ rfl (hown1.alloc _) ⟨w1.heap.size,0,none⟩ 1 1 [.string (p.extract fr i)] rfl rfl ?c1 ?c2 ?c3 ?c4 ?c5 ?_)
             case c1=>exact cell_one_new _ _ _
             case c2=>intro u hu;simp at hu;subst hu;rfl
             case c3=>unfold maxLen;omega
             case c4=>omega
             case c5=>simp;omega
             · intro v' w2 hown' hgrow _
               go_wp2
               go_roundw
               case rel=>
                refine⟨xs++[(p.data.toList.drop fr).take (i - fr)],i+1,i+1,by go_num,by go_num,HNX.out,?_,?_⟩
                · have e:sv ((p.data.toList.drop fr).take (i - fr))= .string (p.extract fr i):=by rw[←HX.out,sv_data]
                  rw[List.map_append,List.map_cons,List.map_nil,e]
                  simpa using hown'
                · exact(hbw1.alloc hs1 _).grown hgrow (by simp;omega) (fun k hk=>own_ge hown1 k hk)
               case measure=>simp [intOf];omega
    · have hi2:i=p.size+1:=by omega
      have HF:Hid (splitP p.data.toList=some xs):=hid (by
       have hd:=HCUT.out.done (by rw[←HZ.out];exact hi2)
       have hy:=splitP_yes H0.out HPRE.out (by rw[HCO.out,hd];exact hx16) (by
        rw[hd,List.all_eq_true];exact HCUT.out.chks)
       rw[hy,hd])
      go_wp2
      go_ret2
      exact⟨_,by rw[splitE,HF.out];rfl,by rw[splitL,HF.out];exact hown,hbw⟩
 · have hb2:((p[0].toNat:Int) !=47)=true:=by
    rw[bne_iff_ne];intro e;exact h2 (UInt8.toNat_inj.1 (by show _=47;omega))
   have HN:=hid (splitP_no1 h0 (by
    cases h:Lib.hasPrefix p.data.toList [47] with
    |false=>rfl
    |true=>obtain ⟨t,e⟩:=(hasPrefix_one _).1 h
           rw[e] at hp0;simp at hp0;exact absurd hp0.symm h2))
   clear hsz h1 h0 hp0 h2
   go_enter Tryz.func68,Tryz.ntmps68
   go_wp2
   go_ret2
   exact splitPost_no HN.out rfl (Below.refl _ _)
end Go.Proofs.YtnmejonfdfdegaaGreatDoor.Nm
namespace Go.Proofs.YtnmejonfdfdegaaGreatDoor.St
open Go.RowKit Go.Maps Go.WideMaps Rf Rd
def StrsAt (w:World) (v:Value) (ps:List (List UInt8)):Prop:=
 ∃ a cap,v= .slice a ps.length cap∧ps.length≤maxLen∧(∀ p∈ps,p.length≤maxLen)∧
   (ps≠[]→∃ b o,a=some ⟨b,o,none⟩∧b < w.heap.size∧∀ (i:Nat) p,ps[i]? =some p→w.cell? ⟨b,o+i,none⟩=some (.string ⟨p.toArray⟩))
theorem StrsAt.turn {X:List Nat} {w w':World} {v:Value} {ps:List (List UInt8)} (h:StrsAt w v ps) (ht:Turn X w w') (hX:∀ b∈X,∀ o n cap,v≠ .slice (some ⟨b,o,none⟩) n cap):StrsAt w' v ps:=by
 obtain⟨a,cap,rfl,h1,h2,h3⟩:=h
 refine⟨a,cap,rfl,h1,h2,fun hne=>?_⟩
 obtain⟨b,o,rfl,hb,hc⟩:=h3 hne
 refine⟨b,o,rfl,Nat.lt_of_lt_of_le hb ht.size,fun i p hp=>?_⟩
 rw[World.cell?_of_block (a:=⟨b,o+i,none⟩) (ht.block b hb (fun hm=>hX b hm o _ cap rfl))]
 exact hc i p hp
theorem StrsAt.below {w w':World} {v:Value} {ps:List (List UInt8)} (h:StrsAt w v ps) (hb:Below w.heap.size w w'):StrsAt w' v ps:=
 h.turn (X:=[]) (Turn.of_below hb) (fun b hb=>by cases hb)
end Go.Proofs.YtnmejonfdfdegaaGreatDoor.St
namespace Go.Proofs.YtnmejonfdfdegaaGreatDoor.Sr
open Go.RowKit Go.Maps Go.WideMaps Rf Go.Proofs.YtnmejonfdfdegaaGreatDoor.Nm St
abbrev NdT:TypeId:=82
abbrev TrT:TypeId:=84
def mapV (m:Option Nat):Value:= .map m
def ptrO (p:Option Nat):Value:= .pointer (p.map fun n=>⟨n,0,none⟩)
theorem ptrO_some (n:Nat):ptrO (some n)=ptr n:=rfl
theorem ptrO_none:ptrO none= .pointer none:=rfl
def XA.cells (a:XA) (xv:Value):List Value:=[.int .u8 (a.node:Int),.int .u32 (a.mode:Int),.int .u32 (a.uid:Int),.int .u32 (a.gid:Int),.int .i64 a.mtime,.string ⟨a.target.toArray⟩,xv]
def TE.cells (e:TE):List Value:= .int .u64 (e.ino:Int):: .int .i64 e.tick::(e.at_.cells e.xv++[.string ⟨e.data.toArray⟩,mapV e.m])
def xcells (xs:List (List UInt8×List UInt8)):List Value:=xs.flatMap fun x=>[.string ⟨x.1.toArray⟩,.string ⟨x.2.toArray⟩]
def XsAt (w:World) (v:Value) (xs:List (List UInt8×List UInt8)):Prop:=
 ∃ a cap,v= .slice a xs.length cap∧xs.length≤maxLen∧(∀ x∈xs,x.1.length≤maxLen∧x.2.length≤maxLen)∧
   (xs≠[]→∃ b o,a=some ⟨b,o,none⟩∧b < w.heap.size∧∀ (i:Nat) x,xs[i]? =some x→w.cell? ⟨b,o+i*2,none⟩=some (.string ⟨x.1.toArray⟩)∧w.cell? ⟨b,o+i*2+1,none⟩=some (.string ⟨x.2.toArray⟩))
def xob (xs:List (List UInt8×List UInt8)) (v:Value):List Nat:=
 match xs,v with
 |_::_,.slice (some a) _ _=>[a.block]
 |_,_=>[]
theorem XsAt.kept {w w':World} {v:Value} {xs:List (List UInt8×List UInt8)} (h:XsAt w v xs) (hs:w.heap.size≤w'.heap.size) (hb:∀ b∈xob xs v,w'.heap[b]? =w.heap[b]?):XsAt w' v xs:=by
 obtain⟨a,cap,rfl,h1,h2,h3⟩:=h
 refine⟨a,cap,rfl,h1,h2,fun hne=>?_⟩
 obtain⟨b,o,rfl,hlt,hc⟩:=h3 hne
 have hbb:w'.heap[b]? =w.heap[b]? :=hb b (by
  cases xs with
  |nil=>exact absurd rfl hne
  |cons x r=>simp [xob])
 refine⟨b,o,rfl,Nat.lt_of_lt_of_le hlt hs,fun i x hx=>?_⟩
 rw[World.cell?_of_block (a:=⟨b,o+i*2,none⟩) hbb,World.cell?_of_block (a:=⟨b,o+i*2+1,none⟩) hbb]
 exact hc i x hx
theorem XsAt.lt {w:World} {v:Value} {xs:List (List UInt8×List UInt8)} (h:XsAt w v xs):∀ b∈xob xs v,b < w.heap.size:=by
 obtain⟨a,cap,rfl,h1,h2,h3⟩:=h
 intro b hb
 cases xs with
 |nil=>simp [xob] at hb
 |cons x r=>
  obtain⟨b',o,rfl,hlt,_⟩:=h3 (by simp)
  simp[xob] at hb
  subst hb;exact hlt
structure Tr where
 L:List TE
 clock:Nat
 most:Nat
 reads:Nat
def ownE (e:TE):List Nat:=e.p::e.m.toList
def ownL (L:List TE):List Nat:=L.flatMap ownE
def xobL (L:List TE):List Nat:=L.flatMap fun e=>xob e.at_.xs e.xv
structure NodeAt (w:World) (L:List TE) (e:TE):Prop where
 cells:w.heap[e.p]? =some (.cells e.cells.toArray NdT)
 kids:∀ b,e.m=some b→w.ownsMap Tryz.prog 9 Rv b 1000000 (toD ptr (kidsT L e.nm))
 xs:XsAt w e.xv e.at_.xs
structure TreeAt (B:Nat) (w:World) (r:Nat) (T:Tr):Prop where
 root:∃ e,getT [] T.L=some e∧w.heap[r]? =some (.cells #[ptr e.p,.int .i64 (T.clock:Int),.int .u64 (T.most:Int),.int .i64 (T.reads:Int)] TrT)
 node:∀ e∈T.L,NodeAt w T.L e
 nod:(r::ownL T.L).Nodup
 xoff:∀ b∈xobL T.L,b ∉ r::ownL T.L
 base:∀ b∈r::(ownL T.L++xobL T.L),B≤b
 srt:SrtT T.L
 par:∀ e∈T.L,∀ n s,e.nm=n++[s]→∃ u∈T.L,u.nm=n∧u.m≠none
 kind:∀ e∈T.L,(e.at_.node=2 ↔ e.m≠none)
theorem ownL_mem {L:List TE} {e:TE} (he:e∈L):e.p∈ownL L:=List.mem_flatMap.2 ⟨e,he,by simp[ownE]⟩
theorem ownL_mem2 {L:List TE} {e:TE} {b:Nat} (he:e∈L) (hb:e.m=some b):b∈ownL L:=List.mem_flatMap.2 ⟨e,he,by simp[ownE,hb]⟩
theorem NodeAt.kept {w w':World} {L:List TE} {e:TE} (h:NodeAt w L e) (hs:w.heap.size≤w'.heap.size) (hb:∀ b∈ownE e++xob e.at_.xs e.xv,w'.heap[b]? =w.heap[b]?):NodeAt w' L e:=
 ⟨(hb _ (by simp[ownE])).trans h.cells,fun b hm=>ownsMap_block (h.kids b hm) (hb b (by simp[ownE,hm])),h.xs.kept hs (fun b hx=>hb b (by simp[hx]))⟩
theorem NodeAt.lt {w:World} {L:List TE} {e:TE} (h:NodeAt w L e):∀ b∈ownE e++xob e.at_.xs e.xv,b < w.heap.size:=by
 intro b hb
 rcases List.mem_append.1 hb with hb|hb
 · rw[ownE,List.mem_cons] at hb
   rcases hb with rfl|hb
   · exact lt_of_heap h.cells
   · exact(h.kids b (by simpa using hb)).lt
 · exact h.xs.lt b hb
theorem TreeAt.kept {B:Nat} {w w':World} {r:Nat} {T:Tr} (h:TreeAt B w r T) (hs:w.heap.size≤w'.heap.size) (hb:∀ b∈r::(ownL T.L++xobL T.L),w'.heap[b]? =w.heap[b]?):TreeAt B w' r T:=by
 refine⟨?_,fun e he=>(h.node e he).kept hs (fun b hx=>hb b ?_),h.nod,h.xoff,h.base,h.srt,h.par,h.kind⟩
 · obtain⟨e,h1,h2⟩:=h.root
   exact⟨e,h1,(hb r (by simp)).trans h2⟩
 · rw[List.mem_cons,List.mem_append]
   rcases List.mem_append.1 hx with hx|hx
   · exact .inr (.inl (List.mem_flatMap.2 ⟨e,he,hx⟩))
   · exact .inr (.inr (List.mem_flatMap.2 ⟨e,he,hx⟩))
theorem TreeAt.lt {B:Nat} {w:World} {r:Nat} {T:Tr} (h:TreeAt B w r T):∀ b∈r::(ownL T.L++xobL T.L),b < w.heap.size:=by
 intro b hb
 rw[List.mem_cons,List.mem_append] at hb
 rcases hb with rfl|hb|hb
 · obtain⟨e,_,h2⟩:=h.root;exact lt_of_heap h2
 · obtain⟨e,he,hx⟩:=List.mem_flatMap.1 hb
   exact(h.node e he).lt b (by simp[hx])
 · obtain⟨e,he,hx⟩:=List.mem_flatMap.1 hb
   exact(h.node e he).lt b (by simp[hx])
theorem TreeAt.below {B:Nat} {w w':World} {r:Nat} {T:Tr} (h:TreeAt B w r T) (hb:Below w.heap.size w w'):TreeAt B w' r T:=
 h.kept hb.size (fun b hx=>hb.block b (h.lt b hx))
theorem TreeAt.mono {B B':Nat} {w:World} {r:Nat} {T:Tr} (h:TreeAt B w r T) (hB:B'≤B):TreeAt B' w r T:=
 ⟨h.root,h.node,h.nod,h.xoff,fun b hb=>Nat.le_trans hB (h.base b hb),h.srt,h.par,h.kind⟩
theorem zeroPN (w:World):(zeroValue 74).run Tryz.prog w= .ok (.pointer none) w:=by kernel_rfl
theorem kid_look {B:Nat} {w:World} {r:Nat} {T:Tr} (h:TreeAt B w r T) {e:TE} (he:e∈T.L) (s:List UInt8) (hs:s.length≤maxLen):
 (Instr.lookup 80 (mapV e.m) (.string ⟨s.toArray⟩) false).run Tryz.prog w= .ok (ptrO ((getT (e.nm++[s]) T.L).map TE.p)) w:=by
 cases hm:e.m with
 |some b=>
  have:=look_run1 Tryz.underlying80 zeroPN ((h.node e he).kids b hm) ⟨s.toArray⟩ hs
  rw[show (⟨s.toArray⟩:ByteArray).data.toList=s from by simp,kidsT_get h.srt] at this
  rw[mapV,this]
  cases (getT (e.nm++[s]) T.L).map TE.p <;> rfl
 |none=>
  have hn:getT (e.nm++[s]) T.L=none:=by
   rw[getT_none]
   intro x hx hxn
   obtain⟨u,hu,h1,h2⟩:=h.par x hx _ _ hxn
   rw[srtT_inj h.srt hu he h1] at h2
   exact h2 hm
  rw[hn]
  have hu:Tryz.prog.underlying 80=_:=Tryz.underlying80
  rw[mapV]
  go_simp
  rfl
end Go.Proofs.YtnmejonfdfdegaaGreatDoor.Sr
