import Derived.Test.YtnmejonfdfdegaaGreatDoorProg
import Derived.Below
import Derived.ChangeSame
import Derived.WalkKit
import Derived.ProofKit
import Derived.OpenShut
import Derived.SizedLaws
import Derived.Lib.Strings
import Derived.Maps.OwnSet
import Derived.Maps.OwnOps
import Derived.StringKeys
import Derived.Lib.RuneCountTail
import Derived.Lib.DecodeN
import Derived.Lib.TrimByte
import Derived.Laws.Cover4
import Derived.Lib.Split
import Derived.Lib.SplitLaws
import Derived.WideAt
import Derived.WideShapes
import Derived.Lib.BufSteps
import Derived.Lib.Hide
import Derived.Laws.AppendOwn
import Derived.Maps.AppendAt
import Derived.OwnWalk
import Derived.BigRegion
import Derived.BigQuiet
import Derived.BigCall
import Derived.BigGuard
import Derived.Deep.QuietTactic
import Derived.Laws.Tables
import Derived.Laws.ResultCell
import Derived.Deep.MidRow
import Derived.Deep.RegionHeld3
import Derived.Great.BuildSlice
import Derived.Laws.Shifts
import Derived.Laws.Closers25b
import Derived.Lib.ConvBytes
import Derived.Laws.Bits64
import Derived.Laws.Bits64b
import Derived.Lib.UnsafeStr
import Derived.Laws.BitsAllLaws
set_option linter.unusedSimpArgs false
set_option linter.unusedVariables false
set_option maxHeartbeats 1000000
set_option maxRecDepth 100000
namespace Go.Proofs.YtnmejonfdfdegaaGreatDoor.Rk
open Go.RowKit Go.WideShapes Go.ChangeShapes
section
variable {H:Type} {enc:TypeId×Value→H} {P:Program}
theorem post_of_below {f:Func} {s:ChangeSpec} {apart fresh handsOn again:Bool} {W W':World} {args:Array Value} {v:Value} {ds gs:List (DataW H)} {before pa pv:List MemPlace}
 (hW:DataW.Whole enc P f.params.toList s.vars apart W args.toList ds gs before)
 (hres:∀ (b:Nat) (sp:Nat→Bool) (hd:Bool),DataW.TrodAll enc P W' b sp hd f.resultTypes.toList (v.resultList f.resultTypes.size) (s.fn H (ds++gs)).results [])
 (hargs:∀ sp:Nat→Bool,(∀ p∈before,sp p.block=true)→DataW.TrodAll enc P W' 0 sp true f.params.toList args.toList (s.fn H (ds++gs)).args pa)
 (hvars:∀ sp:Nat→Bool,(∀ p∈before,sp p.block=true)→DataW.TrodVars enc P W' sp s.vars (s.fn H (ds++gs)).vars pv)
 (hps:before=pa++pv) (hb:Below W.heap.size W W')
 (hok:∀ (j:Nat) (t:TypeId) (r:Value),f.resultTypes[j]? =some t→(v.resultList f.resultTypes.size)[j]? =some r→Value.okWide P W' .any 0 t r):
 s.post enc P f apart fresh handsOn again W args v W':=by
 have hlt:∀ p∈before,p.block < W.heap.size:=fun p hp=>hW.lt p hp
 have hold:∀ p∈before,(fun b=>decide (b < W.heap.size)) p.block=true:=fun p hp=>by simpa using hlt p hp
 refine⟨ds,gs,before,[],pa,pv,hW,hres _ _ _,hargs _ hold,hvars _ hold,World.keptBut_mono (fun p hp=>⟨hp,?_⟩) (hb.frame (·∈before)),fun _=>?_⟩
 · rw[hps,List.mem_append] at hp
   exact Or.inr hp
 · obtain⟨_,_,_,_,_,hz,hn⟩:=hW
   refine⟨hok,_,_,([]++pa)++pv,⟨[]++pa,pv,trodAll_append (hargs _ (fun _ _=>rfl)) (hres _ _ _),hvars _ (fun _ _=>rfl),rfl,?_,?_⟩,?_⟩
   · intro b off hp
     have hin:MemPlace.cell b off∈before:=by rw[hps];simpa using hp
     rw[hb.frozen (hlt _ hin)]
     exact hz b off hin
   · intro ha
     have:=hn ha
     rw[hps] at this
     simpa using this
   · intro p hp _
     rw[hps]
     simpa using hp
end
end Go.Proofs.YtnmejonfdfdegaaGreatDoor.Rk
namespace Go.Proofs.YtnmejonfdfdegaaGreatDoor.Rf
def rd:Nat→Nat→List UInt8→Option (Nat×Nat)
 |_,_,[]=>none
 |i,n,b::r=>if 10≤i then none else if (i=9∧1 < b.toNat)∨(0 < i∧b.toNat=0) then none
  else if b.toNat < 128 then some (n+b.toNat*128 ^ i,i+1) else rd (i+1) (n+(b.toNat - 128)*128 ^ i) r
def rd0 (s:List UInt8):Option (Nat×Nat):=rd 0 0 s
end Go.Proofs.YtnmejonfdfdegaaGreatDoor.Rf
namespace Go.Proofs.YtnmejonfdfdegaaGreatDoor.Rf
open Go.RowKit Go.Maps Go.WideMaps
theorem law:Keyed Tryz.prog 9:=string_keyed Tryz.underlying9
def Rv (v:Value):Option (DataW Value×List MemPlace):=some (.held v,[])
def lt (a b:List UInt8):Bool:=(Lit.string a).before (.string b)
section
variable {α:Type}
abbrev MV (α:Type):=List (List UInt8×α)
def insM (k:List UInt8) (n:α):MV α→MV α
 |[]=>[(k,n)]
 |y::r=>if lt k y.1 then(k,n)::y::r else y::insM k n r
def delM (m:MV α) (k:List UInt8):MV α:=m.filter fun p=> !(p.1==k)
def putM (m:MV α) (k:List UInt8) (n:α):MV α:=insM k n (delM m k)
def getM (m:MV α) (k:List UInt8):Option α:=(m.find? fun p=>p.1==k).map (·.2)
variable (enc:α→Value)
def toD (m:MV α):DataW Value:= .map (m.map fun p=>(.string p.1,.held (enc p.2)))
theorem sameKey_string (a b:List UInt8):(Lit.string a).sameKey (.string b)=(a==b):=by
 simp[Lit.sameKey]
theorem toD_ins (k:List UInt8) (n:α):∀ m:MV α,DataW.insert ((.string k,.held (enc n)):Lit×DataW Value) (m.map fun p=>(Lit.string p.1,DataW.held (enc p.2)))=(insM k n m).map fun p=>(Lit.string p.1,DataW.held (enc p.2))
 |[]=>rfl
 |y::r=>by
  rw[List.map_cons,DataW.insert,insM]
  by_cases h:lt k y.1=true
  · rw[if_pos h,if_pos (by exact h)];rfl
  · rw[if_neg h,if_neg (by exact h),toD_ins k n r];rfl
theorem toD_filter (k:List UInt8) (m:MV α):((m.map fun p=>((Lit.string p.1,DataW.held (enc p.2)):Lit×DataW Value)).filter fun p=> !p.1.sameKey (.string k))=(delM m k).map fun p=>(Lit.string p.1,DataW.held (enc p.2)):=by
 rw[delM,List.filter_map]
 congr 1
theorem toD_del (m:MV α) (k:List UInt8):(toD enc m).del (.string k)=toD enc (delM m k):=by
 rw[toD,DataW.del,toD_filter];rfl
theorem toD_put (m:MV α) (k:List UInt8) (n:α):(toD enc m).put (.string k) (.held (enc n))=toD enc (putM m k n):=by
 rw[toD,DataW.put,toD_filter,toD_ins];rfl
theorem toD_find (m:MV α) (k:List UInt8):(m.map fun p=>((Lit.string p.1,DataW.held (enc p.2)):Lit×DataW Value)).find? (fun p=>p.1.sameKey (.string k))=(m.find? fun p=>p.1==k).map fun p=>(Lit.string p.1,DataW.held (enc p.2)):=by
 rw[List.find?_map]
 congr 1
theorem toD_at (m:MV α) (k:List UInt8) (z:Value):(toD enc m).atKey (.string k) (.held z)= .held (((getM m k).map enc).getD z):=by
 rw[toD,DataW.atKey,toD_find,getM]
 cases m.find? fun p=>p.1==k <;> rfl
theorem toD_has (m:MV α) (k:List UInt8):Maps.has (toD enc m) (.string k)=(getM m k).isSome:=by
 rw[toD,Maps.has_eq,getM,Option.isSome_map,List.any_map]
 induction m with
 |nil=>rfl
 |cons y r ih=>
  rw[List.any_cons,List.find?_cons,ih]
  simp only[Function.comp,sameKey_string]
  cases h:y.1==k <;> simp
theorem toD_size (m:MV α):Maps.size (toD enc m)=m.length:=by rw[toD,Maps.size_eq,List.length_map]
theorem getM_mem {m:MV α} {k:List UInt8} {n:α} (h:getM m k=some n):(k,n)∈m:=by
 rw[getM] at h
 obtain⟨p,hp,rfl⟩:=Option.map_eq_some_iff.1 h
 have h1:=List.mem_of_find?_eq_some hp
 have h2:=List.find?_some hp
 have:p.1=k:=by simpa using h2
 subst this;exact h1
theorem mem_ins {k:List UInt8} {n:α} {p:List UInt8×α}:∀ {m:MV α},p∈insM k n m ↔ p=(k,n)∨p∈m
 |[]=>by simp[insM]
 |y::r=>by
  rw[insM];split
  · simp
  · rw[List.mem_cons,mem_ins (m:=r),List.mem_cons]
    constructor
    · rintro (h|h|h)
      · exact .inr (.inl h)
      · exact .inl h
      · exact .inr (.inr h)
    · rintro (h|h|h)
      · exact .inr (.inl h)
      · exact .inl h
      · exact .inr (.inr h)
theorem mem_del {k:List UInt8} {p:List UInt8×α} {m:MV α}:p∈delM m k ↔ p∈m∧p.1≠k:=by
 rw[delM,List.mem_filter];simp
theorem ins_perm (k:List UInt8) (n:α):∀ m:MV α,(insM k n m).Perm ((k,n)::m)
 |[]=> .refl _
 |y::r=>by
  rw[insM];split
  · exact .refl _
  · exact((ins_perm k n r).cons y).trans (.swap _ _ _)
theorem put_perm (k:List UInt8) (n:α) (m:MV α):(putM m k n).Perm ((k,n)::delM m k):=ins_perm k n _
theorem get_none_iff {m:MV α} {k:List UInt8}:getM m k=none ↔ ∀ p∈m,p.1≠k:=by
 rw[getM,Option.map_eq_none_iff,List.find?_eq_none];simp
variable {β:Type} (g:α→β)
end
theorem keyK (S:ByteArray) (hS:S.size≤maxLen):keyOf Tryz.prog 9 (.string S)=some (.string S.data.toList):=keyOf_string_mk Tryz.underlying9 hS
section
variable {α:Type} {enc:α→Value}
theorem look_run1 {T e:TypeId} {z:Value} (hT:Tryz.prog.underlying T=some (.map 9 e)) (hz:∀ w,(zeroValue e).run Tryz.prog w= .ok z w) {w:World} {b n:Nat} {m:MV α} (h:w.ownsMap Tryz.prog 9 Rv b n (toD enc m)) (S:ByteArray) (hS:S.size≤maxLen):
 (Instr.lookup T (.map (some b)) (.string S) false).run Tryz.prog w= .ok (((getM m S.data.toList).map enc).getD z) w:=by
 obtain⟨v,hr,ps,hv⟩:∃ v,(Instr.lookup T (.map (some b)) (.string S) false).run Tryz.prog w= .ok v w∧∃ ps,Rv v=some ((toD enc m).atKey (.string S.data.toList) (.held z),ps):=by
  obtain⟨es,clock,hb,F,_,hD⟩:=h
  rw[hD]
  rcases Maps.fit_look false law hT (hz w) hb F (keyK S hS) with⟨hrun,_,hat⟩|⟨e0,y,_,_,hrun,hRv,hat,_⟩
  · exact⟨_,hrun,[],by rw[hat];rfl⟩
  · exact⟨_,hrun,y.2,by rw[hat];exact hRv⟩
 rw[toD_at] at hv
 have e:=congrArg Prod.fst (Option.some.inj hv)
 dsimp only at e
 injection e with e
 rw[hr,e]
end
end Go.Proofs.YtnmejonfdfdegaaGreatDoor.Rf
namespace Go.Proofs.YtnmejonfdfdegaaGreatDoor.Nm
def byteN (l:List UInt8) (i:Nat):Nat:=(l.getD i 0).toNat
def dec (l:List UInt8):Nat×Nat:=Lib.decodeN l.length (byteN l 0) (byteN l 1) (byteN l 2) (byteN l 3)
theorem getB (s:ByteArray) (i:Nat):s.get! i=s.data.toList.getD i 0:=(Lib.getD_get!' s i).symm
theorem decode_drop (s:ByteArray) (i:Nat):Utf8.decode s i=dec (s.data.toList.drop i):=by
 rw[Lib.decode_at,dec,List.length_drop,←Lib.size_eq]
 have h:∀ k,(s.get! (i+k)).toNat=byteN (s.data.toList.drop i) k:=fun k=>by
  rw[getB];simp[byteN,List.getD,List.getElem?_drop]
 rw[←h 0,←h 1,←h 2,←h 3]
 rfl
theorem byteN_lt (l:List UInt8) (i:Nat):byteN l i < 256:=(l.getD i 0).toNat_lt
theorem dec_width (l:List UInt8) (h:l≠[]):1≤(dec l).2∧(dec l).2≤l.length∧(dec l).2≤4:=by
 have hl:1≤l.length:=by cases l with|nil=>exact absurd rfl h|cons a t=>simp
 unfold dec Lib.decodeN
 repeat' split
 all_goals (dsimp only;omega)
theorem dec_bound (l:List UInt8):(dec l).1≤1114111:=by
 have h0:=byteN_lt l 0;have h1:=byteN_lt l 1;have h2:=byteN_lt l 2;have h3:=byteN_lt l 3
 unfold dec Lib.decodeN
 repeat' split
 all_goals (dsimp only;omega)
theorem dec_error (l:List UInt8) (h:(dec l).1=65533):(dec l).2=1∨((dec l).2=3∧2 < l.length∧byteN l 0=239∧byteN l 1=191∧byteN l 2=189):=by
 have h0:=byteN_lt l 0;have h1:=byteN_lt l 1;have h2:=byteN_lt l 2;have h3:=byteN_lt l 3
 revert h
 unfold dec Lib.decodeN
 repeat' split
 all_goals (dsimp only;intro h;first|(left;rfl)|(right;omega)|(exfalso;omega))
theorem dec_fffd (l:List UInt8) (hl:2 < l.length) (h0:byteN l 0=239) (h1:byteN l 1=191) (h2:byteN l 2=189):dec l=(65533,3):=by
 unfold dec Lib.decodeN
 rw[h0,h1,h2]
 simp[hl,show 1 < l.length by omega]
theorem prefix_fffd (l:List UInt8):Lib.hasPrefix l [239,191,189]=true ↔ (2 < l.length∧byteN l 0=239∧byteN l 1=191∧byteN l 2=189):=by
 rcases l with _|⟨a,_|⟨b,_|⟨c,t⟩⟩⟩
 · simp[Lib.hasPrefix]
 · simp[Lib.hasPrefix,List.isPrefixOf]
 · simp[Lib.hasPrefix,List.isPrefixOf]
 · simp only[Lib.hasPrefix,List.isPrefixOf,byteN,Bool.and_true,Bool.and_eq_true,beq_iff_eq,List.length_cons,List.getD_cons_zero,List.getD_cons_succ,←UInt8.toNat_inj]
   constructor
   · rintro ⟨x,y,z⟩;exact⟨by omega,x.symm,y.symm,z.symm⟩
   · rintro ⟨_,x,y,z⟩;exact⟨x.symm,y.symm,z.symm⟩
theorem bad_iff (l:List UInt8) (h:(dec l).1=65533):Lib.hasPrefix l [239,191,189]= !((dec l).2==1):=by
 rcases dec_error l h with h1|⟨h3,hh⟩
 · rw[h1]
   cases hp:Lib.hasPrefix l [239,191,189] with
   |false=>rfl
   |true=>
    obtain⟨a,b,c,d⟩:=(prefix_fffd l).1 hp
    rw[dec_fffd l a b c d] at h1;cases h1
 · rw[h3,(prefix_fffd l).2 hh];rfl
def segF:Nat→List UInt8→List (Nat×List UInt8)
 |0,_=>[]
 |f+1,l=>if l=[] then [] else((dec l).1,l.take (dec l).2)::segF f (l.drop (dec l).2)
def seg (l:List UInt8):List (Nat×List UInt8):=segF l.length l
theorem segF_enough:∀ (f g:Nat) (l:List UInt8),l.length≤f→l.length≤g→segF f l=segF g l
 |0,g,l,hf,_=>by
  have:l=[]:=by cases l with|nil=>rfl|cons a t=>simp at hf
  subst this;cases g <;> simp[segF]
 |f+1,0,l,_,hg=>by
  have:l=[]:=by cases l with|nil=>rfl|cons a t=>simp at hg
  subst this;simp[segF]
 |f+1,g+1,l,hf,hg=>by
  by_cases h:l=[]
  · subst h;simp[segF]
  · have hw:=dec_width l h
    simp only[segF,if_neg h]
    rw[segF_enough f g _ (by rw[List.length_drop];omega) (by rw[List.length_drop];omega)]
@[simp] theorem seg_nil:seg []=[]:=rfl
theorem seg_cons (l:List UInt8) (h:l≠[]):seg l=((dec l).1,l.take (dec l).2)::seg (l.drop (dec l).2):=by
 have hw:=dec_width l h
 unfold seg
 rw[segF_enough l.length ((l.length - 1)+1) l (Nat.le_refl _) (by omega)]
 simp only[segF,if_neg h]
 rw[segF_enough (l.length - 1) (l.drop (dec l).2).length _ (by rw[List.length_drop];omega) (Nat.le_refl _)]
theorem seg_induct {P:List UInt8→Prop} (h0:P []) (h1:∀ l,l≠[]→P (l.drop (dec l).2)→P l) (l:List UInt8):P l:=by
 suffices ∀ n (l:List UInt8),l.length≤n→P l from this _ l (Nat.le_refl _)
 intro n
 induction n with
 |zero=>intro l h;have:l=[]:=by {cases l with|nil=>rfl|cons a t=>simp at h}
        subst this;exact h0
 |succ n ih=>
  intro l h
  by_cases e:l=[]
  · subst e;exact h0
  · have hw:=dec_width l e
    exact h1 l e (ih _ (by rw[List.length_drop];omega))
def isBad (p:Nat×List UInt8):Bool:=p.1==65533 && p.2.length==1
def okB (l:List UInt8):Bool:=(seg l).all fun p=> !isBad p
def count (l:List UInt8):Nat:=(seg l).length
theorem isBad_head (l:List UInt8) (h:l≠[]):isBad ((dec l).1,l.take (dec l).2)=((dec l).1==65533 && (dec l).2==1):=by
 have hw:=dec_width l h
 simp only[isBad,List.length_take,Nat.min_eq_left hw.2.1]
theorem okB_bad (l:List UInt8) (h:l≠[]) (h1:(dec l).1=65533) (h2:Lib.hasPrefix l [239,191,189]=false):okB l=false:=by
 rw[bad_iff l h1] at h2
 rw[okB,seg_cons l h,List.all_cons,isBad_head l h]
 simp at h2
 simp[h1,h2]
theorem okB_good (l:List UInt8) (h:l≠[]) (h1:(dec l).1=65533→Lib.hasPrefix l [239,191,189]=true):okB l=okB (l.drop (dec l).2):=by
 rw[okB,seg_cons l h,List.all_cons,isBad_head l h,←okB]
 by_cases e:(dec l).1=65533
 · have:=h1 e
   rw[bad_iff l e] at this
   simp at this
   simp[this]
 · simp[e]
theorem count_cons (l:List UInt8) (h:l≠[]):count l=count (l.drop (dec l).2)+1:=by
 rw[count,seg_cons l h];rfl
theorem count_le (l:List UInt8):count l≤l.length:=by
 induction l using seg_induct with
 |h0=>simp [count]
 |h1 l h ih=>rw [count_cons l h];have:=dec_width l h;rw[List.length_drop] at ih;omega
def whN (l:List UInt8):Nat:=if okB l then count l else 0
def enc (r:Nat):List UInt8:=(Utf8.encode (Int.ofNat r)).data.toList
theorem enc_eq (r:Nat):enc r=(Utf8.encode (r:Int)).data.toList:=by rw[enc,Int.ofNat_eq_natCast]
def encs (rs:List Nat):List UInt8:=rs.flatMap enc
theorem encs_cons (r:Nat) (rs:List Nat):encs (r::rs)=enc r++encs rs:=List.flatMap_cons
def fine (r:Nat):Bool:= !(decide (r < 32)) && !(r==127) && !(r==47)
def runesFine (l:List UInt8):Bool:=(seg l).all fun p=>fine p.1
def lenFine (l:List UInt8):Bool:=okB l && decide (1≤count l) && decide (count l≤64) && decide (l.length≤255) && !(l==[46]) && !(l==[46,46])
def chk (l:List UInt8):Bool:=lenFine l && runesFine l
def parts:List UInt8→List (List UInt8)
 |[]=>[[]]
 |c::t=>if c=47 then []::parts t else match parts t with|[]=>[[c]]|h::r=>(c::h)::r
theorem parts_ne (l:List UInt8):parts l≠[]:=by
 cases l with
 |nil=>simp [parts]
 |cons c t=>rw [parts];split;· simp
            split <;> simp
theorem parts_none (l:List UInt8) (h:∀ c∈l,c≠47):parts l=[l]:=by
 induction l with
 |nil=>rfl
 |cons c t ih=>
  rw[parts,if_neg (h c (by simp)),ih (fun x hx=>h x (by simp[hx]))]
theorem parts_hit (a b:List UInt8) (h:∀ c∈a,c≠47):parts (a++47::b)=a::parts b:=by
 induction a with
 |nil=>simp [parts]
 |cons c t ih=>
  rw[List.cons_append,parts,if_neg (h c (by simp)),ih (fun x hx=>h x (by simp[hx]))]
theorem parts_count (l:List UInt8):(parts l).length=l.count 47+1:=by
 induction l with
 |nil=>rfl
 |cons c t ih=>
  rw[parts]
  by_cases h:c=47
  · subst h;simp[ih]
  · rw[if_neg h,List.count_cons_of_ne h]
    cases hp:parts t with
    |nil=>exact absurd hp (parts_ne t)
    |cons x r=>rw [hp] at ih;simpa using ih
theorem parts_le (l:List UInt8):∀ x∈parts l,x.length≤l.length:=by
 induction l with
 |nil=>intro x hx;simp[parts] at hx;subst hx;simp
 |cons c t ih=>
  intro x hx
  rw[parts] at hx
  split at hx
  · rcases List.mem_cons.1 hx with rfl|hx
    · simp
    · have:=ih x hx;simp;omega
  · split at hx
    · rename_i e;exact absurd e (parts_ne t)
    · rename_i a r e
      rw[e] at ih
      rcases List.mem_cons.1 hx with rfl|hx
      · have:=ih a (by simp);simp;omega
      · have:=ih x (by simp[hx]);simp;omega
theorem splitK_parts:∀ (n:Nat) (l:List UInt8),l.count 47=n→Lib.splitK [47] 0 n l=parts l
 |0,l,h=>by
  rw[parts_none l (fun c hc e=>by subst e;have:=List.count_pos_iff.2 hc;omega)]
  rfl
 |n+1,l,h=>by
  have hmem:(47:UInt8)∈l:=List.count_pos_iff.1 (by omega)
  rw[Lib.splitK]
  cases hi:Lib.index l [47] with
  |negSucc k=>
   exfalso
   have h1:=Lib.index_ge l [47]
   have hm:Lib.index l [47]= -1:=by omega
   rw[Lib.index_one] at hm
   obtain⟨j,hj,e⟩:=List.getElem_of_mem hmem
   exact Lib.indexByte_none hm j (by rw[List.getElem?_eq_getElem hj,e])
  |ofNat i=>
   have hne:(Int.ofNat i==(-1:Int))=false:=by rw[beq_eq_false_iff_ne];simp
   simp only[hne,Bool.false_eq_true,if_false]
   have hib:Lib.indexByte l 47=(i:Nat):=by rw[←Lib.index_one,hi];rfl
   obtain⟨h1,h2⟩:=Lib.indexByte_some hib
   have hl:i < l.length:=(List.getElem?_eq_some_iff.1 h1).1
   have hd:l=l.take i++47::l.drop (i+1):=by
    have:=List.drop_eq_getElem_cons hl
    rw[(List.getElem?_eq_some_iff.1 h1).2] at this
    rw[←this,List.take_append_drop]
   have ha:∀ c∈l.take i,c≠47:=by
    intro c hc e
    subst e
    obtain⟨j,hj,e⟩:=List.getElem_of_mem hc
    have hj':j < i:=by rw[List.length_take] at hj;omega
    refine h2 j hj' ?_
    rw[List.getElem_take] at e
    rw[List.getElem?_eq_getElem (by omega),e]
   have hc:(l.drop (i+1)).count 47=n:=by
    have e:=congrArg (List.count 47) hd
    rw[List.count_append,List.count_cons_self,h] at e
    have:(l.take i).count 47=0:=List.count_eq_zero.2 (fun hc=>ha 47 hc rfl)
    omega
   have hk:=splitK_parts n _ hc
   conv=>rhs;rw[hd,parts_hit _ _ ha]
   rw[←hk]
   simp
theorem splitB_parts (s:ByteArray):(Lib.splitB ⟨#[47]⟩ 0 (s.data.toList.count 47) s).map (·.data.toList)=parts s.data.toList:=by
 rw[Lib.splitB_data]
 exact splitK_parts _ _ rfl
def splitP (p:List UInt8):Option (List (List UInt8)):=
 if p=[47] then some [] else if Lib.hasPrefix p [47] && decide (p.count 47≤16) && (parts (p.drop 1)).all chk then some (parts (p.drop 1)) else none
def pathOf (ns:List (List UInt8)):List UInt8:=ns.flatMap fun n=>47::n
def joinP (ns:List (List UInt8)):Option (List UInt8):=
 if decide (ns.length≤16) && ns.all chk then some (if pathOf ns=[] then [47] else pathOf ns) else none
theorem hasPrefix_one (p:List UInt8):Lib.hasPrefix p [47]=true ↔ ∃ t,p=47::t:=by
 cases p with
 |nil=>simp [Lib.hasPrefix]
 |cons c t=>
  simp[Lib.hasPrefix,List.isPrefixOf]
  exact eq_comm
end Go.Proofs.YtnmejonfdfdegaaGreatDoor.Nm
namespace Go.Proofs.YtnmejonfdfdegaaGreatDoor.St
open Go.RowKit Go.WideAt Go.WideShapes Rf Go.Proofs.YtnmejonfdfdegaaGreatDoor.Nm
structure SE where
 path:List UInt8
 node:Nat
 size:Int
 ino:Nat
 tick:Int
 kind:Nat
 id:List UInt8
instance:Inhabited SE:=⟨⟨[],0,0,0,0,0,[]⟩⟩
theorem lt_irrefl (a:List UInt8):lt a a=false:=bytes_irrefl a
theorem lt_total {a b:List UInt8} (h:a≠b):lt a b=true∨lt b a=true:=bytes_total a b h
theorem lt_trans {a b c:List UInt8} (h:lt a b=true) (k:lt b c=true):lt a c=true:=bytes_trans a b c h k
theorem lt_ne {a b:List UInt8} (h:lt a b=true):a≠b:=by
 rintro rfl;rw[lt_irrefl] at h;cases h
theorem lt_asymm {a b:List UInt8} (h:lt a b=true):lt b a=false:=by
 cases k:lt b a
 · rfl
 · have:=lt_trans h k;rw[lt_irrefl] at this;cases this
theorem lt_less:∀ a b:List UInt8,Op.bytesLess a b=lt a b
 |[],[]=>rfl
 |[],_::_=>rfl
 |_::_,[]=>rfl
 |a::r,b::s=>by
  show(decide (a < b)||(a==b && Op.bytesLess r s))=(decide (a < b)||(a==b && lt r s))
  rw[lt_less r s]
theorem lt_iff:∀ {a b:List UInt8},lt a b=true ↔ a < b
 |[],[]=>by simp[lt,Lit.before,bytesBefore]
 |[],_::_=>by simp[lt,Lit.before,bytesBefore]
 |_::_,[]=>by simp[lt,Lit.before,bytesBefore]
 |a::r,b::s=>by
  have e:lt (a::r) (b::s)=(decide (a < b)||(a==b && lt r s)):=rfl
  rw[e,List.cons_lt_cons_iff,Bool.or_eq_true,Bool.and_eq_true,decide_eq_true_eq,beq_iff_eq,lt_iff (a:=r) (b:=s)]
def Srt (L:List SE):Prop:=L.Pairwise fun a b=>lt a.path b.path=true
theorem Srt.tail {e:SE} {L:List SE} (h:Srt (e::L)):Srt L:=(List.pairwise_cons.1 h).2
theorem Srt.head {e:SE} {L:List SE} (h:Srt (e::L)):∀ x∈L,lt e.path x.path=true:=(List.pairwise_cons.1 h).1
def getL (p:List UInt8):List SE→Option SE
 |[]=>none
 |y::r=>if lt y.path p=true then getL p r else if y.path=p then some y else none
theorem srt_ext:∀ {A B:List SE},Srt A→Srt B→(∀ e,e∈A ↔ e∈B)→A=B
 |[],[],_,_,_=>rfl
 |[],b::B,_,_,h=>by have:=(h b).2 (by simp);cases this
 |a::A,[],_,_,h=>by have:=(h a).1 (by simp);cases this
 |a::A,b::B,hA,hB,h=>by
  have e1:a=b:=by
   rcases List.mem_cons.1 ((h a).1 (by simp)) with e|e
   · exact e
   · rcases List.mem_cons.1 ((h b).2 (by simp)) with e2|e2
     · exact e2.symm
     · have h1:=hB.head a e;have h2:=hA.head b e2
       rw[lt_asymm h1] at h2;cases h2
  subst e1
  congr 1
  refine srt_ext hA.tail hB.tail fun e=>?_
  constructor
  · intro he
    rcases List.mem_cons.1 ((h e).1 (by simp[he])) with rfl|e2
    · have:=hA.head e he;rw[lt_irrefl] at this;cases this
    · exact e2
  · intro he
    rcases List.mem_cons.1 ((h e).2 (by simp[he])) with rfl|e2
    · have:=hB.head e he;rw[lt_irrefl] at this;cases this
    · exact e2
end Go.Proofs.YtnmejonfdfdegaaGreatDoor.St
namespace Go.Proofs.YtnmejonfdfdegaaGreatDoor.Sr
open Go.RowKit Rf Go.Proofs.YtnmejonfdfdegaaGreatDoor.Nm St
abbrev PN:=List (List UInt8)
def ahd:PN→PN→Bool
 |[],[]=>false
 |[],_::_=>true
 |_::_,[]=>false
 |a::r,b::s=>if a=b then ahd r s else lt a b
theorem ahd_irrefl:∀ a,ahd a a=false
 |[]=>rfl
 |a::r=>by rw[ahd,if_pos rfl,ahd_irrefl r]
theorem ahd_trans:∀ {a b c:PN},ahd a b=true→ahd b c=true→ahd a c=true
 |[],[],_,h,_=>by cases h
 |[],_::_,[],_,h=>by cases h
 |[],_::_,_::_,_,_=>rfl
 |_::_,[],_,h,_=>by cases h
 |_::_,_::_,[],_,h=>by cases h
 |a::r,b::s,c::t,h,k=>by
  rw[ahd] at h k ⊢
  by_cases h1:a=b
  · subst h1
    rw[if_pos rfl] at h
    by_cases h2:a=c
    · subst h2;rw[if_pos rfl] at k ⊢;exact ahd_trans h k
    · rw[if_neg h2] at k ⊢;exact k
  · rw[if_neg h1] at h
    by_cases h2:b=c
    · subst h2;rw[if_neg h1];exact h
    · rw[if_neg h2] at k
      have:=lt_trans h k
      rw[if_neg (lt_ne this)];exact this
theorem ahd_total:∀ {a b:PN},a≠b→ahd a b=true∨ahd b a=true
 |[],[],h=>absurd rfl h
 |[],_::_,_=> .inl rfl
 |_::_,[],_=> .inr rfl
 |a::r,b::s,h=>by
  rw[ahd,ahd]
  by_cases h1:a=b
  · subst h1;rw[if_pos rfl,if_pos rfl];exact ahd_total (fun e=>h (by rw[e]))
  · rw[if_neg h1,if_neg (Ne.symm h1)];exact lt_total h1
theorem ahd_ne {a b:PN} (h:ahd a b=true):a≠b:=by rintro rfl;rw[ahd_irrefl] at h;cases h
theorem ahd_asymm {a b:PN} (h:ahd a b=true):ahd b a=false:=by
 cases k:ahd b a
 · rfl
 · have:=ahd_trans h k;rw[ahd_irrefl] at this;cases this
theorem ahd_pre:∀ (a b c:PN),ahd (a++b) (a++c)=ahd b c
 |[],_,_=>rfl
 |x::r,b,c=>by rw[List.cons_append,List.cons_append,ahd,if_pos rfl,ahd_pre r]
theorem ahd_one (a b:List UInt8):ahd [a] [b]=lt a b:=by
 rw[ahd];split
 · next h=>subst h;rw[lt_irrefl];rfl
 · rfl
theorem ahd_below (a:PN) {b:PN} (h:b≠[]):ahd a (a++b)=true:=by
 have:=ahd_pre a [] b
 rw[List.append_nil] at this
 rw[this]
 match b,h with
 |_::_,_=>rfl
structure XA where
 node:Nat
 mode:Nat
 uid:Nat
 gid:Nat
 mtime:Int
 target:List UInt8
 xs:List (List UInt8×List UInt8)
structure TE where
 nm:PN
 ino:Nat
 tick:Int
 at_:XA
 data:List UInt8
 p:Nat
 m:Option Nat
 xv:Value
def SrtT (L:List TE):Prop:=L.Pairwise fun a b=>ahd a.nm b.nm=true
def getT (n:PN) (L:List TE):Option TE:=L.find? fun e=>decide (e.nm=n)
theorem getT_nm {n:PN} {L:List TE} {e:TE} (h:getT n L=some e):e∈L∧e.nm=n:=
 ⟨List.mem_of_find?_eq_some h,by simpa using List.find?_some h⟩
theorem srtT_inj {L:List TE} (h:SrtT L) {a b:TE} (ha:a∈L) (hb:b∈L) (he:a.nm=b.nm):a=b:=by
 induction L with
 |nil=>cases ha
 |cons y r ih=>
  obtain⟨h1,h2⟩:=List.pairwise_cons.1 h
  rcases List.mem_cons.1 ha with ha|ha <;> rcases List.mem_cons.1 hb with hb|hb
  · rw[ha,hb]
  · exact absurd he (ahd_ne (by rw[ha];exact h1 b hb))
  · exact absurd he.symm (ahd_ne (by rw[hb];exact h1 a ha))
  · exact ih h2 ha hb
theorem getT_of {L:List TE} (h:SrtT L) {e:TE} (he:e∈L):getT e.nm L=some e:=by
 cases hg:getT e.nm L with
 |none=>
  rw[getT,List.find?_eq_none] at hg
  have:=hg e he
  simp at this
 |some x=>
  obtain⟨h1,h2⟩:=getT_nm hg
  rw[srtT_inj h h1 he h2]
theorem getT_none {n:PN} {L:List TE}:getT n L=none ↔ ∀ e∈L,e.nm≠n:=by
 rw[getT,List.find?_eq_none];simp
def kidOf (n:PN) (e:TE):Option (List UInt8×Nat):=if h:e.nm≠[] then(if e.nm.dropLast=n then some (e.nm.getLast h,e.p) else none) else none
theorem kidOf_some {n:PN} {e:TE} {k:List UInt8×Nat}:kidOf n e=some k ↔ e.nm=n++[k.1]∧e.p=k.2:=by
 unfold kidOf
 constructor
 · intro h
   split at h
   · next hn=>
     split at h
     · next hd=>
       obtain rfl:=Option.some.inj h
       refine⟨?_,rfl⟩
       rw[←hd];exact(List.dropLast_concat_getLast hn).symm
     · cases h
   · cases h
 · rintro ⟨h1,h2⟩
   have hn:e.nm≠[]:=by rw[h1];simp
   rw[dif_pos hn,if_pos (by rw[h1];simp)]
   congr 1
   refine Prod.ext ?_ h2
   show e.nm.getLast hn=k.1
   simp[h1]
def kidsT (L:List TE) (n:PN):MV Nat:=L.filterMap (kidOf n)
theorem kidsT_mem {L:List TE} {n:PN} {k:List UInt8×Nat}:k∈kidsT L n ↔ ∃ e∈L,e.nm=n++[k.1]∧e.p=k.2:=by
 rw[kidsT,List.mem_filterMap]
 simp only[kidOf_some]
theorem kidsT_get {L:List TE} (h:SrtT L) (n:PN) (s:List UInt8):getM (kidsT L n) s=(getT (n++[s]) L).map TE.p:=by
 cases hg:getT (n++[s]) L with
 |none=>
  rw[Option.map_none,get_none_iff]
  rintro ⟨k1,k2⟩ hk rfl
  obtain⟨e,he,h1,_⟩:=kidsT_mem.1 hk
  exact getT_none.1 hg e he h1
 |some e=>
  obtain⟨he,hn⟩:=getT_nm hg
  cases hm:getM (kidsT L n) s with
  |none=>
   rw[get_none_iff] at hm
   exact absurd rfl (hm (s,e.p) (kidsT_mem.2 ⟨e,he,hn,rfl⟩))
  |some q=>
   obtain⟨x,hx,h1,h2⟩:=kidsT_mem.1 (getM_mem hm)
   rw[srtT_inj h hx he (h1.trans hn.symm)] at h2
   rw[Option.map_some];exact congrArg some h2.symm
theorem kidsT_srt {L:List TE} (h:SrtT L) (n:PN):(kidsT L n).Pairwise fun a b=>lt a.1 b.1=true:=by
 rw[kidsT]
 refine List.Pairwise.filterMap _ (fun a b hab x hx y hy=>?_) h
 obtain⟨h1,_⟩:=kidOf_some.1 hx
 obtain⟨h2,_⟩:=kidOf_some.1 hy
 rw[h1,h2,ahd_pre,ahd_one] at hab
 exact hab
theorem kidOf_same {n:PN} {e e':TE} (hn:e'.nm=e.nm) (hp:e'.p=e.p):kidOf n e'=kidOf n e:=by
 obtain⟨a,b,c,d,f,g,h,i⟩:=e
 obtain⟨a',b',c',d',f',g',h',i'⟩:=e'
 dsimp only at hn hp
 subst hn hp
 rfl
theorem kidsT_map {L:List TE} {f:TE→TE} (hn:∀ e∈L,(f e).nm=e.nm) (hp:∀ e∈L,(f e).p=e.p) (n:PN):kidsT (L.map f) n=kidsT L n:=by
 have key:∀ e∈L,kidOf n (f e)=kidOf n e:=by
  intro e he
  exact kidOf_same (hn e he) (hp e he)
 clear hn hp
 rw[kidsT,kidsT,List.filterMap_map]
 induction L with
 |nil=>rfl
 |cons y r ih=>
  rw[List.filterMap_cons,List.filterMap_cons,ih (fun e he=>key e (List.mem_cons_of_mem _ he))]
  rw[Function.comp_apply,key y (by simp)]
def insT (e:TE):List TE→List TE
 |[]=>[e]
 |y::r=>if ahd e.nm y.nm then e::y::r else y::insT e r
theorem mem_insT {e x:TE}:∀ {L:List TE},x∈insT e L ↔ x=e∨x∈L
 |[]=>by simp[insT]
 |y::r=>by
  rw[insT];split
  · simp
  · rw[List.mem_cons,mem_insT (L:=r),List.mem_cons]
    constructor
    · rintro (h|h|h)
      · exact .inr (.inl h)
      · exact .inl h
      · exact .inr (.inr h)
    · rintro (h|h|h)
      · exact .inr (.inl h)
      · exact .inl h
      · exact .inr (.inr h)
theorem insT_perm (e:TE):∀ L:List TE,(insT e L).Perm (e::L)
 |[]=> .refl _
 |y::r=>by
  rw[insT];split
  · exact .refl _
  · exact((insT_perm e r).cons y).trans (.swap _ _ _)
theorem insT_srt {e:TE}:∀ {L:List TE},SrtT L→(∀ x∈L,x.nm≠e.nm)→SrtT (insT e L)
 |[],_,_=>List.pairwise_singleton _ _
 |y::r,h,hn=>by
  obtain⟨h1,h2⟩:=List.pairwise_cons.1 h
  rw[insT];split
  · next hy=>
    refine List.pairwise_cons.2 ⟨fun x hx=>?_,h⟩
    rcases List.mem_cons.1 hx with rfl|hx
    · exact hy
    · exact ahd_trans hy (h1 x hx)
  · next hy=>
    refine List.pairwise_cons.2 ⟨fun x hx=>?_,insT_srt h2 (fun x hx=>hn x (List.mem_cons_of_mem _ hx))⟩
    rcases mem_insT.1 hx with rfl|hx
    · exact(ahd_total (hn y (by simp))).resolve_right hy
    · exact h1 x hx
theorem kids_ins_other {e:TE} {n:PN} (hk:kidOf n e=none):∀ L:List TE,kidsT (insT e L) n=kidsT L n
 |[]=>by simp[insT,kidsT,hk]
 |y::r=>by
  rw[insT];split
  · rw[kidsT,List.filterMap_cons,hk];rfl
  · rw[kidsT,List.filterMap_cons,kidsT,List.filterMap_cons,←kidsT,kids_ins_other hk r];rfl
theorem kids_ins_here {e:TE} {n:PN} {k:List UInt8×Nat} (hk:kidOf n e=some k):∀ {L:List TE},SrtT L→(∀ x∈L,x.nm≠e.nm)→kidsT (insT e L) n=insM k.1 k.2 (kidsT L n)
 |[],_,_=>by simp[insT,kidsT,hk,insM]
 |y::r,h,hn=>by
  obtain⟨h1,h2⟩:=List.pairwise_cons.1 h
  have e1:=(kidOf_some.1 hk).1
  have hfront:∀ (M:MV Nat),(∀ z∈M,lt k.1 z.1=true)→insM k.1 k.2 M=k::M:=by
   intro M hM
   cases M with
   |nil=>rfl
   |cons z M=>rw [insM,if_pos (hM z (by simp))]
  rw[insT];split
  · next hy=>
    have hall:∀ z∈kidsT (y::r) n,lt k.1 z.1=true:=by
     intro z hz
     obtain⟨x,hx,hx1,_⟩:=kidsT_mem.1 hz
     have:ahd e.nm x.nm=true:=by
      rcases List.mem_cons.1 hx with rfl|hx
      · exact hy
      · exact ahd_trans hy (h1 x hx)
     rw[e1,hx1,ahd_pre,ahd_one] at this
     exact this
    rw[hfront _ hall,kidsT,List.filterMap_cons,hk];rfl
  · next hy=>
    have hyn:=hn y (by simp)
    have ih:=kids_ins_here hk h2 (fun x hx=>hn x (List.mem_cons_of_mem _ hx))
    cases hky:kidOf n y with
    |none=>
     rw[kidsT,List.filterMap_cons,hky,kidsT,List.filterMap_cons,hky]
     exact ih
    |some z=>
     have hz:=(kidOf_some.1 hky).1
     have hlt:lt k.1 z.1=false:=by
      rw[e1,hz,ahd_pre,ahd_one] at hy
      simpa using hy
     rw[kidsT,List.filterMap_cons,hky,kidsT,List.filterMap_cons,hky]
     show z::kidsT (insT e r) n=insM k.1 k.2 (z::kidsT r n)
     rw[insM,if_neg (by rw[hlt];decide),ih]
theorem kids_put {e:TE} {n:PN} {s:List UInt8} {L:List TE} (he:e.nm=n++[s]) (h:SrtT L) (hn:∀ x∈L,x.nm≠e.nm):kidsT (insT e L) n=putM (kidsT L n) s e.p:=by
 rw[kids_ins_here (k:=(s,e.p)) (kidOf_some.2 ⟨he,rfl⟩) h hn,putM]
 congr 1
 rw[delM,List.filter_eq_self.2]
 intro z hz
 obtain⟨x,hx,h1,_⟩:=kidsT_mem.1 hz
 have:z.1≠s:=by rintro rfl;exact hn x hx (h1.trans he.symm)
 simpa using this
theorem kids_put_other {e:TE} {n:PN} {L:List TE} (he:∀ s,e.nm≠n++[s]):kidsT (insT e L) n=kidsT L n:=
 kids_ins_other (by
  cases hk:kidOf n e with
  |none=>rfl
  |some k=>exact absurd (kidOf_some.1 hk).1 (he k.1)) L
end Go.Proofs.YtnmejonfdfdegaaGreatDoor.Sr
namespace Go.Proofs.YtnmejonfdfdegaaGreatDoor.Rf
open Go.RowKit Go.Maps
structure Turn (X:List Nat) (w w':World):Prop where
 os:w'.os=w.os
 tape:w'.tape=w.tape
 output:w'.output=w.output
 size:w.heap.size≤w'.heap.size
 block:∀ k,k < w.heap.size→k ∉ X→w'.heap[k]? =w.heap[k]?
theorem Turn.refl (X:List Nat) (w:World):Turn X w w:=⟨rfl,rfl,rfl,Nat.le_refl _,fun _ _ _=>rfl⟩
theorem Turn.trans {X Y:List Nat} {a b c:World} (h:Turn X a b) (k:Turn Y b c) (hY:∀ y∈Y,y∈X∨a.heap.size≤y):Turn X a c:=
 ⟨k.os.trans h.os,k.tape.trans h.tape,k.output.trans h.output,Nat.le_trans h.size k.size,fun j hj hx=>by
   rw[k.block j (Nat.lt_of_lt_of_le hj h.size) (fun hy=>(hY j hy).elim hx (by omega)),h.block j hj hx]⟩
theorem Turn.mono {X Y:List Nat} {a b:World} (h:Turn X a b) (hX:∀ x∈X,x∈Y):Turn Y a b:=
 ⟨h.os,h.tape,h.output,h.size,fun k hk hy=>h.block k hk (fun hx=>hy (hX k hx))⟩
theorem Turn.alloc {X:List Nat} {a b:World} (h:Turn X a b) (o:Obj):Turn X a (b.alloc o):=
 ⟨h.os,h.tape,h.output,Nat.le_trans h.size (by show b.heap.size≤(b.heap.push o).size;rw[Array.size_push];omega),fun k hk hx=>(Below.heap_alloc _ _ _ (Nat.lt_of_lt_of_le hk h.size)).trans (h.block k hk hx)⟩
theorem Turn.drew {X:List Nat} {a b:World} (h:Turn X a b):Turn X a b.drew:=⟨h.os,h.tape,h.output,h.size,h.block⟩
theorem Turn.setCell {X:List Nat} {a b:World} (h:Turn X a b) {p:Addr} (hp:p.block∈X∨a.heap.size≤p.block) (v:Value):Turn X a (b.setCell p v):=
 ⟨h.os,h.tape,h.output,by simpa [World.setCell] using h.size,fun k hk hx=>by
   rw[Below.heap_setCell _ _ _ _ (by intro e;subst e;exact hp.elim hx (by omega))];exact h.block k hk hx⟩
theorem Turn.of_below {X:List Nat} {a b:World} (h:Below a.heap.size a b):Turn X a b:=⟨h.os,h.tape,h.output,h.size,fun k hk _=>h.block k hk⟩
theorem Turn.below {X:List Nat} {B:Nat} {a b:World} (h:Turn X a b) (hX:∀ x∈X,B≤x) (hB:B≤a.heap.size):Below B a b:=
 ⟨h.os,h.tape,h.output,h.size,fun k hk=>h.block k (by omega) (fun hx=>by have:=hX k hx;omega)⟩
theorem setCell_heap (w:World) (g j:Nat) (v:Value) (cur:Array Value) (T:TypeId) (h:w.heap[g]? =some (.cells cur T)):
 (w.setCell ⟨g,j,none⟩ v).heap[g]? =some (.cells (cur.setIfInBounds j v) T):=by
 simp[World.setCell,Array.getElem?_modify,h]
theorem cell_of_heap {w:World} {g j:Nat} {cur:Array Value} {T:TypeId} (h:w.heap[g]? =some (.cells cur T)):w.cell? ⟨g,j,none⟩=cur[j]? :=by
 simp[World.cell?,h]
theorem frozen_of_heap {w:World} {g j:Nat} {cur:Array Value} {T:TypeId} (h:w.heap[g]? =some (.cells cur T)):w.frozen? ⟨g,j,none⟩=false:=by
 simp[World.frozen?,h]
def ob (v:Value):List Nat:=v.ownBlock.toList
abbrev ptr (n:Nat):Value:= .pointer (some ⟨n,0,none⟩)
theorem ownsMap_block {w w':World} {R:Value→Option (DataW Value×List MemPlace)} {k:TypeId} {b n:Nat} {D:DataW Value} (h:w.ownsMap Tryz.prog k R b n D) (hb:w'.heap[b]? =w.heap[b]?):w'.ownsMap Tryz.prog k R b n D:=by
 obtain⟨es,clock,h1,h2⟩:=h
 exact⟨es,clock,hb.trans h1,h2⟩
theorem lt_of_heap {w:World} {q:Nat} {o:Obj} (h:w.heap[q]? =some o):q < w.heap.size:=(Array.getElem?_eq_some_iff.1 h).1
theorem row_mono {w:World} {B B':Nat} {e:TypeId} {size:Nat} {v:Value} {n:Nat} {xs:List Value} (h:w.ownsRow B e size v n xs) (hB:B'≤B):w.ownsRow B' e size v n xs:=by
 obtain⟨h1,h2|⟨g,cap,cur,rfl,hg,rest⟩⟩:=h
 · exact⟨h1,.inl h2⟩
 · exact⟨h1,.inr ⟨g,cap,cur,rfl,Nat.le_trans hB hg,rest⟩⟩
theorem row_cells {w:World} {B:Nat} {e:TypeId} {v:Value} {n:Nat} {xs:List Value} (h:w.ownsRow B e 1 v n xs) (hn:n≠0):∃ g cap,v= .slice (some ⟨g,0,none⟩) n cap∧g < w.heap.size∧B≤g∧∀ (j:Nat) x,xs[j]? =some x→w.cell? ⟨g,j,none⟩=some x:=by
 obtain⟨h1,⟨_,h2⟩|⟨g,cap,cur,rfl,hg,hh,_,_,_,ht⟩⟩:=h
 · exact absurd h2 hn
 · refine⟨g,cap,rfl,lt_of_heap hh,hg,fun j x hj=>?_⟩
   have hjl:j < n:=by have:=(List.getElem?_eq_some_iff.1 hj).1;omega
   rw[cell_of_heap hh]
   have:=congrArg (fun l=>l[j]?) ht
   simp only[Nat.mul_one] at this
   rw[List.getElem?_take_of_lt hjl,Array.getElem?_toList,hj] at this
   exact this
end Go.Proofs.YtnmejonfdfdegaaGreatDoor.Rf
namespace Go.Proofs.YtnmejonfdfdegaaGreatDoor.St
open Go.RowKit Go.Maps Go.WideMaps Rf
def SE.stat (e:SE):List Value:=[.int .u8 (e.node:Int),.int .i64 e.size,.int .u64 (e.ino:Int),.int .i64 e.tick]
def SE.cells (e:SE):List Value:= .string ⟨e.path.toArray⟩:: .int .u8 (e.node:Int):: .int .i64 e.size:: .int .u64 (e.ino:Int):: .int .i64 e.tick:: .int .u8 (e.kind:Int)::Lib.byteCells e.id
structure SE.Fits (e:SE):Prop where
 path:e.path.length≤140737488355328
 node:e.node < 256
 size: -9223372036854775808≤e.size∧e.size < 9223372036854775808
 ino:e.ino < 18446744073709551616
 tick: -9223372036854775808≤e.tick∧e.tick < 9223372036854775808
 kind:e.kind < 256
 id:e.id.length=32
def zeroS:SE:=⟨[],0,0,0,0,0,List.replicate 32 0⟩
theorem cells_size {e:SE} (h:e.id.length=32):e.cells.length=38:=by simp[SE.cells,Lib.byteCells_length,h]
def cellsS (L:List SE):List Value:=L.flatMap SE.cells
theorem cellsS_length {L:List SE} (h:∀ e∈L,e.id.length=32):(cellsS L).length=38*L.length:=by
 induction L with
 |nil=>rfl
 |cons e r ih=>
  have h2:(cellsS r).length=38*r.length:=ih (fun x hx=>h x (by simp[hx]))
  rw[cellsS,List.flatMap_cons,List.length_append,cells_size (h e (by simp)),←cellsS,h2,List.length_cons];omega
theorem cellsS_append (A B:List SE):cellsS (A++B)=cellsS A++cellsS B:=by rw[cellsS,List.flatMap_append];rfl
theorem cellsS_cons (e:SE) (B:List SE):cellsS (e::B)=e.cells++cellsS B:=by rw[cellsS,List.flatMap_cons];rfl
theorem cellsS_at {l:List SE} (h:∀ e∈l,e.id.length=32) {j:Nat} {e:SE} (hj:l[j]? =some e) {t:Nat} {v:Value} (hv:e.cells[t]? =some v):(cellsS l)[j*38+t]? =some v:=by
 obtain⟨hjl,rfl⟩:=List.getElem?_eq_some_iff.1 hj
 have e1:l=l.take j++(l[j]::l.drop (j+1)):=by rw[←List.drop_eq_getElem_cons hjl,List.take_append_drop]
 have h2:(cellsS (l.take j)).length=38*j:=by
  rw[cellsS_length (fun e he=>h e (List.mem_of_mem_take he)),List.length_take,Nat.min_eq_left (by omega)]
 have ht:=(List.getElem?_eq_some_iff.1 hv).1
 have e2:cellsS l=cellsS (l.take j)++(l[j].cells++cellsS (l.drop (j+1))):=by
  conv=>lhs;rw[e1]
  rw[cellsS_append,cellsS_cons]
 rw[e2,List.getElem?_append_right (by omega),h2,show j*38+t - 38*j=t by omega,List.getElem?_append_left ht]
 exact hv
theorem rowS_kept {w w':World} {B:Nat} {e:TypeId} {s:Nat} {v:Value} {n:Nat} {xs:List Value} (h:w.ownsRow B e s v n xs) (hb:∀ b∈ob v,b < w.heap.size→w'.heap[b]? =w.heap[b]?):w'.ownsRow B e s v n xs:=by
 obtain⟨h1,h2|⟨g,cap,cur,rfl,a,b,c⟩⟩:=h
 · exact⟨h1,.inl h2⟩
 · exact⟨h1,.inr ⟨g,cap,cur,rfl,a,(hb g (by simp[ob,Value.ownBlock]) (lt_of_heap b)).trans b,c⟩⟩
theorem rowS_lt {w:World} {B:Nat} {e:TypeId} {s:Nat} {v:Value} {n:Nat} {xs:List Value} (h:w.ownsRow B e s v n xs):∀ b∈ob v,b < w.heap.size:=by
 obtain⟨_,⟨rfl,_⟩|⟨g,cap,cur,rfl,_,hh,_⟩⟩:=h
 · intro b hb;simp[ob,Value.ownBlock] at hb
 · intro b hb;simp[ob,Value.ownBlock] at hb;subst hb;exact lt_of_heap hh
theorem rowS_ge {w:World} {B:Nat} {e:TypeId} {s:Nat} {v:Value} {n:Nat} {xs:List Value} (h:w.ownsRow B e s v n xs):∀ b∈ob v,B≤b:=by
 obtain⟨_,⟨rfl,_⟩|⟨g,cap,cur,rfl,hg,_⟩⟩:=h
 · intro b hb;simp[ob,Value.ownBlock] at hb
 · intro b hb;simp[ob,Value.ownBlock] at hb;subst hb;exact hg
theorem rowS_form {w:World} {B:Nat} {e:TypeId} {s:Nat} {v:Value} {n:Nat} {xs:List Value} (h:w.ownsRow B e s v n xs) (hn:n≠0):∃ g cap,v= .slice (some ⟨g,0,none⟩) n cap∧g < w.heap.size∧B≤g∧n≤cap∧∀ (j:Nat) x,xs[j]? =some x→w.cell? ⟨g,j,none⟩=some x:=by
 obtain⟨h1,⟨_,h2⟩|⟨g,cap,cur,rfl,hg,hh,hc,_,_,ht⟩⟩:=h
 · exact absurd h2 hn
 · refine⟨g,cap,rfl,lt_of_heap hh,hg,hc,fun j x hj=>?_⟩
   rw[cell_of_heap hh]
   have e1:=congrArg (fun l=>l[j]?) ht
   rw[hj] at e1
   have hjl:j < n*s:=by
    have:=(List.getElem?_eq_some_iff.1 hj).1
    omega
   rw[List.getElem?_take_of_lt hjl,Array.getElem?_toList] at e1
   exact e1
theorem rowS_slice {w:World} {B:Nat} {e:TypeId} {s:Nat} {v:Value} {n:Nat} {xs:List Value} (h:w.ownsRow B e s v n xs):∃ a cap,v= .slice a n cap:=by
 obtain⟨_,⟨rfl,rfl⟩|⟨g,cap,cur,rfl,_⟩⟩:=h
 · exact⟨_,_,rfl⟩
 · exact⟨_,_,rfl⟩
theorem rowS_nil (w:World) (B:Nat) (e:TypeId) (s:Nat):w.ownsRow B e s (.slice none 0 0) 0 []:=World.ownsRow_nil _ _ _ _
theorem store_new (w:World) (T:TypeId) (old cs:Array Value):((w.alloc (.cells old T)).setRow w.heap.size cs).heap[w.heap.size]? =some (.cells cs T)∧Below w.heap.size w ((w.alloc (.cells old T)).setRow w.heap.size cs):=by
 refine⟨setRow_heap _ _ _ _ _ _ (MapKept.heap_alloc w _).1,?_⟩
 refine((Below.refl _ w).alloc (Nat.le_refl _) (.cells old T)).trans ⟨rfl,rfl,rfl,by simp[World.setRow],fun k hk=>?_⟩
 exact setRow_other _ _ _ _ (by omega)
theorem setRow_size (w:World) (g:Nat) (cs:Array Value):(w.setRow g cs).heap.size=w.heap.size:=by simp[World.setRow]
theorem range_block {w:World} {g:Nat} {cs:Array Value} {T:TypeId} (h:w.heap[g]? =some (.cells cs T)):w.rangeAt g 0 cs.toList:=fun j v hv=>by
 rw[Nat.zero_add,cell_of_heap h,←Array.getElem?_toList];exact hv
theorem one_size (w:World) (A:Obj):(w.alloc A).heap.size=w.heap.size+1:=by show(w.heap.push _).size=_;simp
theorem at_alloc {w:World} {x:Nat} {o:Obj} (h:w.heap[x]? =some o) (A:Obj):(w.alloc A).heap[x]? =some o:=(Below.heap_alloc _ _ _ (lt_of_heap h)).trans h
theorem map_tight {w:World} {b n n':Nat} {α:Type} {enc:α→Value} {m:MV α} (h:w.ownsMap Tryz.prog 9 Rv b n (toD enc m)) (hs:m.length≤n'):w.ownsMap Tryz.prog 9 Rv b n' (toD enc m):=by
 obtain⟨es,clock,h1,h2,h3,h4⟩:=h
 refine⟨es,clock,h1,h2,?_,h4⟩
 have:=congrArg Maps.size h4
 rw[toD_size,Maps.size_eq,length_sorted] at this
 simp at this
 omega
section
variable {P:Program} {ops:Array Oper} {rest:List Oper} {o:Oper} {a:Act} {w:World} {Q:Exit→Act→World→Prop}
theorem wpList_store_new {old:Array Value} {T:TypeId} {p:Nat} (hp:p=w.heap.size) (hgd:o.guard=none) (ty:TypeId) (x y:Operand) (ho:o.op= .store ty x y)
 (cs:Array Value) (hx:a.eval x= .pointer (some ⟨p,0,none⟩)) (hy:a.eval y= .agg cs) (hi:(P.info? ty).map (·.size)=some cs.size) (hold:old.size=cs.size) (h1:cs.all (·.oneCell')=true)
 (h:∀ w2:World,w2.heap[p]? =some (.cells cs T)→Below p w w2→w2.heap.size=p+1→wpList P ops Q rest (a.put o.dst undef) w2):
 wpList P ops Q (o::rest) a (w.alloc (.cells old T)):=by
 subst hp
 refine wpList_store_row hgd ty x y ho w.heap.size cs hx hy T old (MapKept.heap_alloc w _).1 hi hold h1 ?_
 obtain⟨a1,a2⟩:=store_new w T old cs
 exact h _ a1 a2 (by rw[setRow_size,one_size])
theorem wpList_store_at {old:Array Value} {T:TypeId} {g:Nat} (hg:w.heap[g]? =some (.cells old T)) (hgd:o.guard=none) (ty:TypeId) (x y:Operand) (ho:o.op= .store ty x y)
 (cs:Array Value) (hx:a.eval x= .pointer (some ⟨g,0,none⟩)) (hy:a.eval y= .agg cs) (hi:(P.info? ty).map (·.size)=some cs.size) (hold:old.size=cs.size) (h1:cs.all (·.oneCell')=true)
 (h:∀ w2:World,w2.heap[g]? =some (.cells cs T)→Turn [g] w w2→w2.heap.size=w.heap.size→wpList P ops Q rest (a.put o.dst undef) w2):
 wpList P ops Q (o::rest) a w:=by
 refine wpList_store_row hgd ty x y ho g cs hx hy T old hg hi hold h1 ?_
 exact h _ (setRow_heap _ _ _ _ _ _ hg) ⟨rfl,rfl,rfl,by simp[World.setRow],fun k _ hk=>setRow_other _ _ _ _ (by simpa using hk)⟩ (setRow_size _ _ _)
end
section
variable {ops:Array Oper} {rest:List Oper} {o:Oper} {a:Act} {w:World} {Q:Exit→Act→World→Prop} {B g b:Nat} {L:List SE}
end
section
variable {P:Program} {ops:Array Oper} {o:Oper} {a:Act} {w:World} {K:Act→World→Prop} {Q:Exit→Act→World→Prop} {E:Prop}
theorem step_wp (hgd:o.guard=none) (h:Oper.wp P o a w K Q):if Region.wanted o (yielded ops a.tmps)=true then Oper.wp P o a w K Q else E:=by
 have hw:Region.wanted o (yielded ops a.tmps)=true:=by simp[Region.wanted,hgd]
 rw[if_pos hw]
 exact h
theorem wp_store_new {old:Array Value} {T:TypeId} {p:Nat} (hp:p=w.heap.size) (ty:TypeId) (x y:Operand) (ho:o.op= .store ty x y)
 (cs:Array Value) (hx:a.eval x= .pointer (some ⟨p,0,none⟩)) (hy:a.eval y= .agg cs) (hi:(P.info? ty).map (·.size)=some cs.size) (hold:old.size=cs.size) (h1:cs.all (·.oneCell')=true)
 (h:∀ w2:World,w2.heap[p]? =some (.cells cs T)→Below p w w2→w2.heap.size=p+1→K (a.put o.dst undef) w2):
 o.wp P a (w.alloc (.cells old T)) K Q:=by
 subst hp
 refine wp_store_row ty x y ho w.heap.size cs hx hy T old (MapKept.heap_alloc w _).1 hi hold h1 ?_
 obtain⟨a1,a2⟩:=store_new w T old cs
 exact h _ a1 a2 (by rw[setRow_size,one_size])
theorem wp_store_at {old:Array Value} {T:TypeId} {g:Nat} (hg:w.heap[g]? =some (.cells old T)) (ty:TypeId) (x y:Operand) (ho:o.op= .store ty x y)
 (cs:Array Value) (hx:a.eval x= .pointer (some ⟨g,0,none⟩)) (hy:a.eval y= .agg cs) (hi:(P.info? ty).map (·.size)=some cs.size) (hold:old.size=cs.size) (h1:cs.all (·.oneCell')=true)
 (h:∀ w2:World,w2.heap[g]? =some (.cells cs T)→Turn [g] w w2→w2.heap.size=w.heap.size→K (a.put o.dst undef) w2):
 o.wp P a w K Q:=by
 refine wp_store_row ty x y ho g cs hx hy T old hg hi hold h1 ?_
 exact h _ (setRow_heap _ _ _ _ _ _ hg) ⟨rfl,rfl,rfl,by simp[World.setRow],fun k _ hk=>setRow_other _ _ _ _ (by simpa using hk)⟩ (setRow_size _ _ _)
end
end Go.Proofs.YtnmejonfdfdegaaGreatDoor.St
namespace Go.Proofs.YtnmejonfdfdegaaGreatDoor.Rf
open Go.RowKit Go.Maps
theorem cat_list (S:ByteArray) (l:List UInt8):S++⟨l.toArray⟩=(⟨(S.data.toList++l).toArray⟩:ByteArray):=by
 congr 1
end Go.Proofs.YtnmejonfdfdegaaGreatDoor.Rf
namespace Go.Proofs.YtnmejonfdfdegaaGreatDoor.Rd
open Go.RowKit Go.Maps Go.WideMaps Rf
theorem ba_ext {A B:ByteArray} (h:A.data.toList=B.data.toList):A=B:=by
 cases A;cases B
 congr 1
 exact Array.toList_inj.1 h
theorem ba_data (l:List UInt8):(⟨l.toArray⟩:ByteArray).data.toList=l:=by simp
theorem ba_mk (s:ByteArray):(⟨s.data.toList.toArray⟩:ByteArray)=s:=ba_ext (by simp)
theorem one_size (w:World) (A:Obj):(w.alloc A).heap.size=w.heap.size+1:=by show(w.heap.push _).size=_;simp
def shR (L:List UInt8):List UInt8:=match rd0 L with|some p=>L.drop p.2|none=>L
def tkR (n:Nat) (L:List UInt8):List UInt8:=if n≤L.length then L.drop n else L
def txt (most:Nat) (L:List UInt8):Option (List UInt8×List UInt8):=
 match rd0 L with
 |none=>none
 |some p=>if p.1≤most∧p.1≤L.length - p.2 then some ((L.drop p.2).take p.1,(L.drop p.2).drop p.1) else none
def txR (most:Nat) (L:List UInt8):List UInt8:=match txt most L with|some p=>p.2|none=>L
end Go.Proofs.YtnmejonfdfdegaaGreatDoor.Rd
