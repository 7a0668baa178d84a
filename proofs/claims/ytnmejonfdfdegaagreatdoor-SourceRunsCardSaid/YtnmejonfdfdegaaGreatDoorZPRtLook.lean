import Derived.Test.YtnmejonfdfdegaaGreatDoorZPSrIn18
import Derived.Test.YtnmejonfdfdegaaGreatDoorZPNmWhole
import Derived.Test.YtnmejonfdfdegaaGreatDoorZPSrOwn
import Derived.Test.YtnmejonfdfdegaaGreatDoorZPSrSort
import Derived.Deep.CutBlock
set_option linter.unusedSimpArgs false
set_option linter.unusedVariables false
set_option maxHeartbeats 4000000
set_option maxRecDepth 100000
namespace Go.Proofs.YtnmejonfdfdegaaGreatDoor.Sr
open Go.RowKit Go.Maps Go.WideMaps Rf Go.Proofs.YtnmejonfdfdegaaGreatDoor.Nm St
open Lib (hid)
theorem pre_no {a b:PN} {i:Nat} {x y:List UInt8} (ha:a[i]? =some x) (hb:b[i]? =some y) (h:x≠y):a.isPrefixOf b=false:=by
 cases hp:a.isPrefixOf b with
 |false=>rfl
 |true=>
  have:=(pre_at.1 hp).2 i x ha
  rw[hb] at this
  exact absurd (Option.some.inj this).symm h
theorem pre_no_len {a b:PN} (h:b.length < a.length):a.isPrefixOf b=false:=by
 cases hp:a.isPrefixOf b with
 |false=>rfl
 |true=>have:=(pre_at.1 hp).1;omega
theorem drawW {w0 w:World} (h:Below w0.heap.size w0 w) (n:Nat):Below w0.heap.size w0 (w.drewN n):=h.trans ((St.below_drewN w n).mono h.size)
theorem begins_any (w:World) (va vb:Value) (a b:PN) (ha:St.StrsAt w va a) (hb:St.StrsAt w vb b):
 Calls Tryz.prog 73 #[va,vb] w fun e w'=>e= .returned (.bool (a.isPrefixOf b))∧Below w.heap.size w w':=by
 obtain⟨aa,ac,rfl,hal,ham,hac⟩:=ha
 obtain⟨ba,bc,rfl,hbl,hbm,hbc⟩:=hb
 unfold maxLen at hal hbl
 have HA:=hid hac;have HB:=hid hbc
 clear hac hbc ham hbm
 by_cases hlen:(b.length:Int) < (a.length:Int)
 · have HR:Hid (a.isPrefixOf b=false):=hid (pre_no_len (by omega))
   go_enter Tryz.func73,Tryz.ntmps73
   go_wp2
   go_ret
   rw[HR.out];exact⟨rfl,Below.refl _ _⟩
 · have hle:a.length≤b.length:=by omega
   go_enter Tryz.func73,Tryz.ntmps73
   go_wp2
   go_loopw [5] (fun v5 wr=>∃ i:Nat,i≤a.length∧v5= .int .i64 (i:Int)∧Hid (∀ (j:Nat) x,j < i→a[j]? =some x→b[j]? =some x)∧Hid (Below w.heap.size w wr)) (fun v5 _=>a.length - (RowKit.intOf v5).toNat)
   case atStart=>exact ⟨0,Nat.zero_le _,rfl,hid (fun j x hj _=>absurd hj (Nat.not_lt_zero _)),hid (Below.refl _ _)⟩
   case round=>
    obtain⟨i,hi,rfl,HP,HW⟩:=hrel
    by_cases hil:(i:Int) < (a.length:Int)
    · have hi1:i < a.length:=by omega
      have hi2:i < b.length:=by omega
      obtain⟨x,hx⟩:∃ x,a[i]? =some x:=⟨_,List.getElem?_eq_getElem hi1⟩
      obtain⟨y,hy⟩:∃ y,b[i]? =some y:=⟨_,List.getElem?_eq_getElem hi2⟩
      obtain⟨bp,op,rfl,hbp,hcp⟩:=HA.out (fun e=>by rw[e] at hi1;cases hi1)
      obtain⟨bq,oq,rfl,hbq,hcq⟩:=HB.out (fun e=>by rw[e] at hi2;cases hi2)
      have cp:wr.cell? ⟨bp,op+i,none⟩=some (.string ⟨x.toArray⟩):=(World.cell?_of_block (a:=⟨bp,op+i,none⟩) (HW.out.block _ hbp)).trans (hcp i x hx)
      have cq:wr.cell? ⟨bq,oq+i,none⟩=some (.string ⟨y.toArray⟩):=(World.cell?_of_block (a:=⟨bq,oq+i,none⟩) (HW.out.block _ hbq)).trans (hcq i y hy)
      have HX:=hid hx;have HY:=hid hy
      clear hcp hcq hx hy
      by_cases hxy:x=y
      · have q1:(x==y)=true:=by simpa using hxy
        have HXY:=hid hxy
        clear hxy
        go_wp2
        go_quiet (fail)
        go_wp2
        go_roundw
        case rel=>
         refine⟨i+1,by omega,by go_num,hid (fun j z hj hz=>?_),hid (drawW HW.out _)⟩
         rcases Nat.lt_succ_iff_lt_or_eq.1 hj with h|rfl
         · exact HP.out j z h hz
         · rw[HX.out] at hz;rw[HY.out,←HXY.out];exact hz
        case measure=>simp [RowKit.intOf];omega
      · have q1:(x==y)=false:=by simpa using hxy
        have HR:Hid (a.isPrefixOf b=false):=hid (pre_no HX.out HY.out hxy)
        clear hxy
        go_wp2
        go_quiet (fail)
        go_wp2
        go_ret
        rw[HR.out];exact⟨rfl,drawW HW.out _⟩
    · obtain rfl:i=a.length:=by omega
      have HR:Hid (a.isPrefixOf b=true):=hid (pre_at.2 ⟨hle,fun j x hx=>HP.out j x (List.getElem?_eq_some_iff.1 hx).1 hx⟩)
      go_wp2
      go_ret
      rw[HR.out];exact⟨rfl,HW.out⟩
theorem ahd_len {a b:PN} {i:Nat} (h:a.take i=b.take i) (hi:i=a.length∨i=b.length) (hl:i≤a.length∧i≤b.length):ahd a b=decide (a.length < b.length):=by
 rw[ahd_drop h]
 rcases hi with rfl|rfl
 · rw[List.drop_length]
   cases hd:b.drop a.length with
   |nil=>rw [List.drop_eq_nil_iff] at hd;simp[ahd];omega
   |cons y s=>
    have:a.length < b.length:=by
     have:=congrArg List.length hd
     rw[List.length_drop,List.length_cons] at this;omega
    simp[ahd,this]
 · rw[List.drop_length]
   cases hd:a.drop b.length with
   |nil=>rw [List.drop_eq_nil_iff] at hd;simp[ahd];omega
   |cons y s=>simp [ahd];omega
theorem ahd_at {a b:PN} {i:Nat} {x y:List UInt8} (h:a.take i=b.take i) (hx:a[i]? =some x) (hy:b[i]? =some y) (hne:x≠y):ahd a b=lt x y:=by
 rw[ahd_drop h]
 obtain⟨h1,rfl⟩:=List.getElem?_eq_some_iff.1 hx
 obtain⟨h2,rfl⟩:=List.getElem?_eq_some_iff.1 hy
 rw[List.drop_eq_getElem_cons h1,List.drop_eq_getElem_cons h2,ahd,if_neg hne]
theorem take_more {a b:PN} {i:Nat} {x:List UInt8} (h:a.take i=b.take i) (hx:a[i]? =some x) (hy:b[i]? =some x):a.take (i+1)=b.take (i+1):=by
 rw[List.take_add_one,List.take_add_one,h,hx,hy]
theorem ahead_any (w:World) (va vb:Value) (a b:PN) (ha:St.StrsAt w va a) (hb:St.StrsAt w vb b):
 Calls Tryz.prog 88 #[va,vb] w fun e w'=>e= .returned (.bool (ahd a b))∧Below w.heap.size w w':=by
 obtain⟨aa,ac,rfl,hal,ham,hac⟩:=ha
 obtain⟨ba,bc,rfl,hbl,hbm,hbc⟩:=hb
 unfold maxLen at hal hbl
 have HA:=hid hac;have HB:=hid hbc
 clear hac hbc ham hbm
 go_enter Tryz.func88,Tryz.ntmps88
 go_wp2
 go_loopw [5] (fun v5 wr=>∃ i:Nat,i≤a.length∧i≤b.length∧v5= .int .i64 (i:Int)∧Hid (a.take i=b.take i)∧Hid (Below w.heap.size w wr)) (fun v5 _=>a.length - (RowKit.intOf v5).toNat)
 case atStart=>exact ⟨0,Nat.zero_le _,Nat.zero_le _,rfl,hid rfl,hid (Below.refl _ _)⟩
 case round=>
  obtain⟨i,hi,hib,rfl,HP,HW⟩:=hrel
  by_cases hia:(i:Int) < (a.length:Int)
  · by_cases hil:(i:Int) < (b.length:Int)
    · have hi1:i < a.length:=by omega
      have hi2:i < b.length:=by omega
      obtain⟨x,hx⟩:∃ x,a[i]? =some x:=⟨_,List.getElem?_eq_getElem hi1⟩
      obtain⟨y,hy⟩:∃ y,b[i]? =some y:=⟨_,List.getElem?_eq_getElem hi2⟩
      obtain⟨bp,op,rfl,hbp,hcp⟩:=HA.out (fun e=>by rw[e] at hi1;cases hi1)
      obtain⟨bq,oq,rfl,hbq,hcq⟩:=HB.out (fun e=>by rw[e] at hi2;cases hi2)
      have cp:wr.cell? ⟨bp,op+i,none⟩=some (.string ⟨x.toArray⟩):=(World.cell?_of_block (a:=⟨bp,op+i,none⟩) (HW.out.block _ hbp)).trans (hcp i x hx)
      have cq:wr.cell? ⟨bq,oq+i,none⟩=some (.string ⟨y.toArray⟩):=(World.cell?_of_block (a:=⟨bq,oq+i,none⟩) (HW.out.block _ hbq)).trans (hcq i y hy)
      have HX:=hid hx;have HY:=hid hy
      clear hcp hcq hx hy
      by_cases hxy:x=y
      · have q1:(x==y)=true:=by simpa using hxy
        have HXY:=hid hxy
        clear hxy
        go_wp2
        go_quiet (fail)
        go_wp2
        go_roundw
        case rel=>exact ⟨i+1,by omega,by omega,by go_num,hid (take_more HP.out HX.out (by rw[HY.out,HXY.out])),hid (drawW HW.out _)⟩
        case measure=>simp [RowKit.intOf];omega
      · have q1:(x==y)=false:=by simpa using hxy
        have HR:Hid (ahd a b=lt x y):=hid (ahd_at HP.out HX.out HY.out hxy)
        clear hxy
        cases hl:lt x y with
        |true=>
         have hlp:Op.bytesLess x y=true:=by rw[lt_less];exact hl
         go_wp2
         go_quiet (fail)
         go_wp2
         go_quiet (fail)
         go_wp2
         go_ret
         rw[HR.out,hl];exact⟨rfl,drawW (drawW HW.out _) _⟩
        |false=>
         have hlp:Op.bytesLess x y=false:=by rw[lt_less];exact hl
         go_wp2
         go_quiet (fail)
         go_wp2
         go_quiet (fail)
         go_wp2
         go_ret
         rw[HR.out,hl];exact⟨rfl,drawW (drawW HW.out _) _⟩
    · have HR:Hid (ahd a b=decide ((a.length:Int) < (b.length:Int))):=hid (by rw[ahd_len HP.out (.inr (by omega)) ⟨hi,hib⟩];congr 1;simp)
      have hab:decide ((a.length:Int) < (b.length:Int))=false:=by simp;omega
      rw[hab] at HR
      have hab2:¬ ((a.length:Int) < (b.length:Int)):=by omega
      clear hab
      go_wp2
      go_ret
      rw[HR.out];exact⟨rfl,HW.out⟩
  · have HR:Hid (ahd a b=decide ((a.length:Int) < (b.length:Int))):=hid (by rw[ahd_len HP.out (.inl (by omega)) ⟨hi,hib⟩];congr 1;simp)
    by_cases hab:(a.length:Int) < (b.length:Int)
    · have HR2:Hid (ahd a b=true):=hid (by rw[HR.out];simpa using hab)
      go_wp2
      go_ret
      rw[HR2.out];exact⟨rfl,HW.out⟩
    · have HR2:Hid (ahd a b=false):=hid (by rw[HR.out];simpa using hab)
      go_wp2
      go_ret
      rw[HR2.out];exact⟨rfl,HW.out⟩
theorem rat_any (B:Nat) (w:World) (r:Nat) (v:Value) (R:List RN) (F:Tr) (vl:Value) (l:PN) (hl:St.StrsAt w vl l) (hs:SrtT F.L) (hlen:R.length≤1000000) (h:RTree B w r v R F):
 Calls Tryz.prog 70 #[ptr r,vl] w fun e w'=>e= .returned (.int .i64 (atI l F.L))∧Below w.heap.size w w':=by
 have HL:=hid hl
 obtain⟨la,lc,rfl,hll,_,_⟩:=hl
 obtain⟨va,vc,rfl⟩:=rowS_slice h.row
 unfold maxLen at hll
 have H:=hid h;have HS:=hid hs
 clear h hs
 unfold ptr
 go_enter Tryz.func70,Tryz.ntmps70
 go_wp2
 go_loopw [5] (fun v5 wr=>∃ i:Nat,i≤R.length∧v5= .int .i64 (i:Int)∧Hid (∀ (j:Nat) n,j < i→R[j]? =some n→n.nm≠l)∧Hid (Below w.heap.size w wr)) (fun v5 _=>R.length - (RowKit.intOf v5).toNat)
 case atStart=>exact ⟨0,Nat.zero_le _,rfl,hid (fun j x hj _=>absurd hj (Nat.not_lt_zero _)),hid (Below.refl _ _)⟩
 case round=>
  obtain⟨i,hi,rfl,HP,HW⟩:=hrel
  have HX:=hid (H.out.below HW.out)
  have c0:wr.cell? ⟨r,0,none⟩=some (.slice va R.length vc):=cell_of_heap HX.out.book
  by_cases hil:(i:Int) < (R.length:Int)
  · have hi1:i < R.length:=by omega
    obtain⟨n,hn⟩:∃ n,R[i]? =some n:=⟨_,List.getElem?_eq_getElem hi1⟩
    obtain⟨gv,cap,hv,hgv⟩:=HX.out.form (by omega)
    injection hv with e1 e2 e3
    subst e1 e3
    have hst:=(HX.out.node n (List.mem_of_getElem? hn)).1.strs
    have HST:=hid hst
    obtain⟨na,nc,hnv,hnl,_,_⟩:=hst
    unfold maxLen at hnl
    have cp:wr.cell? ⟨gv,i*11,none⟩=some (.slice na n.nm.length nc):=by rw[←hnv];exact HX.out.ent hn 0 _ rfl
    have HN:=hid hn;have HNV:=hid hnv
    have HTE:=hid (H.out.at_ hn)
    clear hn hnv e2
    by_cases hlq:(n.nm.length:Int)=(l.length:Int)
    · have CB:=hid (begins_any wr (.slice la l.length lc) n.nv l n.nm (HL.out.below HW.out) HST.out)
      rw[HNV.out] at CB
      have q0:((n.nm.length:Int)==(l.length:Int))=true:=by simpa using hlq
      have HPL:Hid (l.isPrefixOf n.nm=decide (n.nm=l)):=hid (pre_len (by omega))
      by_cases hnm:n.nm=l
      · have HPT:Hid (l.isPrefixOf n.nm=true):=hid (by rw[HPL.out];simpa using hnm)
        have HNM:=hid hnm
        clear hnm hlq
        rw[HPT.out] at CB
        go_wp2_with fail
        refine CB.out.mono ?_
        rintro e w1 ⟨rfl,hb1⟩
        have HB1:=hid hb1
        clear hb1 CB
        go_wp2
        go_ret
        rw[(atI_some HS.out HTE.out HNM.out).1]
        exact⟨rfl,HW.out.trans (HB1.out.mono HW.out.size)⟩
      · have HPT:Hid (l.isPrefixOf n.nm=false):=hid (by rw[HPL.out];simpa using hnm)
        have HNM:=hid hnm
        clear hnm hlq
        rw[HPT.out] at CB
        go_wp2_with fail
        refine CB.out.mono ?_
        rintro e w1 ⟨rfl,hb1⟩
        have HB1:=hid hb1
        clear hb1 CB
        go_wp2
        go_roundw
        case rel=>
         refine⟨i+1,by omega,by go_num,hid (fun j z hj hz=>?_),hid (HW.out.trans (HB1.out.mono HW.out.size))⟩
         rcases Nat.lt_succ_iff_lt_or_eq.1 hj with h|rfl
         · exact HP.out j z h hz
         · rw[HN.out] at hz;obtain rfl:=Option.some.inj hz;exact HNM.out
        case measure=>simp [RowKit.intOf];omega
    · have q0:((n.nm.length:Int)==(l.length:Int))=false:=by simpa using hlq
      have HNM:Hid (n.nm≠l):=hid (fun h=>hlq (by rw[h]))
      clear hlq
      go_wp2
      go_roundw
      case rel=>
       refine⟨i+1,by omega,by go_num,hid (fun j z hj hz=>?_),HW⟩
       rcases Nat.lt_succ_iff_lt_or_eq.1 hj with h|rfl
       · exact HP.out j z h hz
       · rw[HN.out] at hz;obtain rfl:=Option.some.inj hz;exact HNM.out
      case measure=>simp [RowKit.intOf];omega
  · obtain rfl:i=R.length:=by omega
    have HR:Hid (atI l F.L= -1):=hid (atI_end (fun j e hj=>by
     obtain⟨n,hn,rfl⟩:=H.out.get hj
     exact HP.out j n (List.getElem?_eq_some_iff.1 hn).1 hn))
    go_wp2
    go_ret
    rw[HR.out];exact⟨rfl,HW.out⟩
def rfindI (p:List UInt8) (L:List TE):Int:=if findE p L=0 then atI (splitL p) L else 0
theorem rfind_no {p:List UInt8} {L:List TE} (h:findE p L≠0):rfindI p L=0:=by rw[rfindI,if_neg h]
theorem rfind_yes {p:List UInt8} {L:List TE} (hs:SrtT L) (h:findE p L=0):∃ (i:Nat) (e:TE),rfindI p L=(i:Int)∧L[i]? =some e∧e.nm=splitL p∧getT (splitL p) L=some e∧splitE p=0:=by
 have h0:=h
 rw[findE] at h
 split at h
 · next hs0=>
   split at h
   · next hg=>
     obtain⟨e,he⟩:=Option.isSome_iff_exists.1 hg
     obtain⟨i,hi,hI⟩:=atI_get hs he
     exact⟨i,e,by rw[rfindI,if_pos h0,hI],hi,(getT_nm he).2,he,hs0⟩
   · cases h
 · cases h
theorem atI_cases (l:PN) {L:List TE} (hs:SrtT L):(atI l L= -1∧getT l L=none)∨∃ (i:Nat) (e:TE),atI l L=(i:Int)∧L[i]? =some e∧e.nm=l∧getT l L=some e:=by
 cases hg:getT l L with
 |none=>exact .inl ⟨atI_none.2 hg,rfl⟩
 |some e=>
  obtain⟨i,hi,hI⟩:=atI_get hs hg
  exact .inr ⟨i,e,hI,hi,(getT_nm hg).2,rfl⟩
theorem rsplit_path {w w':World} {v:Value} {p:List UInt8} (h:w'.ownsRow w.heap.size 9 1 v (splitL p).length ((splitL p).map sv)):PathAt w.heap.size w' v (splitL p):=
 ⟨h,fun x hx=>by have:=(chk_le (splitL_chk hx)).1;unfold maxLen;omega⟩
theorem rfind_any (B:Nat) (w:World) (r:Nat) (v:Value) (R:List RN) (F:Tr) (p:List UInt8) (hT:Tabs w) (hp:p.length≤4611686018427387904) (hs:SrtT F.L) (hlen:R.length≤1000000) (h:RTree B w r v R F):
 Calls Tryz.prog 35 #[ptr r,.string ⟨p.toArray⟩] w fun e w'=>e= .returned (.tuple #[.int .i64 (rfindI p F.L),.int .i64 (findE p F.L)])∧Below w.heap.size w w':=by
 have SP:=ref_split ⟨p.toArray⟩ w hT hp
 rw[show (⟨p.toArray⟩:ByteArray).data.toList=p from by simp] at SP
 have SP:=hid SP
 have H:=hid h;have HS:=hid hs;have HLEN:=hid hlen
 clear h hs hlen
 unfold ptr at*
 go_enter Tryz.func35,Tryz.ntmps35
 go_wp2_with fail
 refine SP.out.mono ?_
 rintro ex w1 ⟨vl,rfl,hr1,hb1⟩
 have HP:=hid (rsplit_path hr1)
 have HB:=hid hb1
 clear hr1 hb1 SP
 rcases splitE_cases p with h0|⟨h0,_⟩
 · have AT:=rat_any B w1 r v R F vl (splitL p) HP.out.strs HS.out HLEN.out (H.out.below HB.out)
   rcases atI_cases (splitL p) HS.out with⟨hI,hg⟩|⟨i,e,hI,_,_,hg⟩
   · have HE:Hid (findE p F.L=6):=hid (by rw[findE,if_pos h0,hg];rfl)
     have HI:Hid (rfindI p F.L=0):=hid (rfind_no (by rw[HE.out];decide))
     rw[hI] at AT
     rw[h0]
     have AT:=hid AT
     unfold ptr at AT
     clear hI hg h0
     go_wp2_with fail
     refine AT.out.mono ?_
     rintro ex w2 ⟨rfl,hb2⟩
     have HB2:=hid hb2
     clear hb2 AT
     go_wp2
     go_ret2
     rw[HE.out,HI.out]
     exact⟨rfl,HB.out.trans (HB2.out.mono HB.out.size)⟩
   · have HE:Hid (findE p F.L=0):=hid (by rw[findE,if_pos h0,hg];rfl)
     have HI:Hid (rfindI p F.L=(i:Int)):=hid (by rw[rfindI,if_pos HE.out,hI])
     rw[hI] at AT
     rw[h0]
     have AT:=hid AT
     unfold ptr at AT
     have hin:¬ ((i:Int) < 0):=by omega
     clear hI hg h0
     go_wp2_with fail
     refine AT.out.mono ?_
     rintro ex w2 ⟨rfl,hb2⟩
     have HB2:=hid hb2
     clear hb2 AT
     go_wp2
     go_ret2
     rw[HE.out,HI.out]
     exact⟨rfl,HB.out.trans (HB2.out.mono HB.out.size)⟩
 · have HE:Hid (findE p F.L=10):=hid (by rw[findE,if_neg (by rw[h0];decide)])
   have HI:Hid (rfindI p F.L=0):=hid (rfind_no (by rw[HE.out];decide))
   rw[h0]
   clear h0
   go_wp2
   go_ret2
   rw[HE.out,HI.out]
   exact⟨rfl,HB.out⟩
theorem kids_more {R:List RN} {i:Nat} {n:RN} (h:R[i]? =some n) (l:PN):((R.take (i+1)).countP fun m=>kidB l m.nm)=((R.take i).countP fun m=>kidB l m.nm)+(if kidB l n.nm then 1 else 0):=by
 rw[List.take_add_one,h,List.countP_append]
 simp[List.countP_cons]
theorem rkids_any (B:Nat) (w:World) (r:Nat) (v:Value) (R:List RN) (F:Tr) (vl:Value) (l:PN) (hl:St.StrsAt w vl l) (hl16:l.length≤1000000) (hlen:R.length≤1000000) (h:RTree B w r v R F):
 Calls Tryz.prog 36 #[ptr r,vl] w fun e w'=>e= .returned (.int .i64 ((kidsT F.L l).length:Int))∧Below w.heap.size w w':=by
 have HL:=hid hl
 obtain⟨la,lc,rfl,hll,_,_⟩:=hl
 obtain⟨va,vc,rfl⟩:=rowS_slice h.row
 unfold maxLen at hll
 have H:=hid h
 have HK:Hid ((kidsT F.L l).length=R.countP fun m=>kidB l m.nm):=hid (by rw[kids_count,h.is,List.countP_map];rfl)
 clear h
 unfold ptr
 have hll2:(l.length:Int)+1≤9223372036854775807:=by omega
 go_enter Tryz.func36,Tryz.ntmps36
 go_wp2
 go_loopw [5,6] (fun v5 v6 wr=>∃ i:Nat,i≤R.length∧v6= .int .i64 (i:Int)∧v5= .int .i64 (((R.take i).countP fun m=>kidB l m.nm:Nat):Int)∧Hid (Below w.heap.size w wr)) (fun _ v6 _=>R.length - (RowKit.intOf v6).toNat)
 case atStart=>exact ⟨0,Nat.zero_le _,rfl,rfl,hid (Below.refl _ _)⟩
 case round=>
  obtain⟨i,hi,rfl,rfl,HW⟩:=hrel
  have HX:=hid (H.out.below HW.out)
  have c0:wr.cell? ⟨r,0,none⟩=some (.slice va R.length vc):=cell_of_heap HX.out.book
  by_cases hil:(i:Int) < (R.length:Int)
  · have hi1:i < R.length:=by omega
    obtain⟨n,hn⟩:∃ n,R[i]? =some n:=⟨_,List.getElem?_eq_getElem hi1⟩
    obtain⟨gv,cap,hv,hgv⟩:=HX.out.form (by omega)
    injection hv with e1 e2 e3
    subst e1 e3
    have hst:=(HX.out.node n (List.mem_of_getElem? hn)).1.strs
    have HST:=hid hst
    obtain⟨na,nc,hnv,hnl,_,_⟩:=hst
    unfold maxLen at hnl
    have cp:wr.cell? ⟨gv,i*11,none⟩=some (.slice na n.nm.length nc):=by rw[←hnv];exact HX.out.ent hn 0 _ rfl
    have HNV:=hid hnv
    have HMO:=hid (kids_more hn l)
    have hcl:((R.take i).countP fun m=>kidB l m.nm)≤i:=Nat.le_trans List.countP_le_length (by rw[List.length_take];omega)
    clear hn hnv e2
    generalize hcc:((R.take i).countP fun m=>kidB l m.nm)=cc at*
    by_cases hlq:(n.nm.length:Int)=(l.length:Int)+1
    · have CB:=hid (begins_any wr (.slice la l.length lc) n.nv l n.nm (HL.out.below HW.out) HST.out)
      rw[HNV.out] at CB
      have q0:((n.nm.length:Int)==(l.length:Int)+1)=true:=by simpa using hlq
      have HKB:Hid (kidB l n.nm=l.isPrefixOf n.nm):=hid (by rw[kidB,decide_eq_true (by omega),Bool.true_and])
      cases hpre:l.isPrefixOf n.nm with
      |true=>
       have HM2:Hid (((R.take (i+1)).countP fun m=>kidB l m.nm)=cc+1):=hid (by rw[HMO.out,HKB.out,hpre];rfl)
       rw[hpre] at CB
       clear hpre hlq hcc
       go_wp2_with fail
       refine CB.out.mono ?_
       rintro e w1 ⟨rfl,hb1⟩
       have HB1:=hid hb1
       clear hb1 CB
       go_wp2
       go_roundw
       case rel=>exact ⟨i+1,by omega,by go_num,by rw[HM2.out];go_num,hid (HW.out.trans (HB1.out.mono HW.out.size))⟩
       case measure=>simp [RowKit.intOf];omega
      |false=>
       have HM2:Hid (((R.take (i+1)).countP fun m=>kidB l m.nm)=cc):=hid (by rw[HMO.out,HKB.out,hpre];rfl)
       rw[hpre] at CB
       clear hpre hlq hcc
       go_wp2_with fail
       refine CB.out.mono ?_
       rintro e w1 ⟨rfl,hb1⟩
       have HB1:=hid hb1
       clear hb1 CB
       go_wp2
       go_roundw
       case rel=>exact ⟨i+1,by omega,by go_num,by rw[HM2.out],hid (HW.out.trans (HB1.out.mono HW.out.size))⟩
       case measure=>simp [RowKit.intOf];omega
    · have q0:((n.nm.length:Int)==(l.length:Int)+1)=false:=by simpa using hlq
      have HM2:Hid (((R.take (i+1)).countP fun m=>kidB l m.nm)=cc):=hid (by rw[HMO.out,kidB,decide_eq_false (by omega)];rfl)
      clear hlq hcc
      go_wp2
      go_roundw
      case rel=>exact ⟨i+1,by omega,by go_num,by rw[HM2.out],HW⟩
      case measure=>simp [RowKit.intOf];omega
  · obtain rfl:i=R.length:=by omega
    go_wp2
    go_ret
    rw[HK.out];exact⟨by first|rfl|(rw[List.take_length];rfl),HW.out⟩
theorem rfolder_any (B B2:Nat) (w:World) (r:Nat) (v:Value) (R:List RN) (F:Tr) (vl:Value) (l:PN) (hne:l≠[]) (hl:PathAt B2 w vl l) (hs:SrtT F.L) (hlen:R.length≤1000000) (h:RTree B w r v R F):
 Calls Tryz.prog 71 #[ptr r,vl] w fun e w'=>e= .returned (.int .i64 (abvE l F.L))∧Below w.heap.size w w':=by
 obtain⟨gl,lc,rfl,hlc,hlm,hst⟩:=hl.front hne
 have hl1:1≤l.length:=by have:=List.length_pos_iff.2 hne;omega
 have hlm2:l.length≤maxLen:=Nat.le_trans hlc hlm
 unfold maxLen at hlm hlm2
 have AT:=rat_any B w r v R F _ l.dropLast hst hs hlen h
 obtain⟨va,vc,rfl⟩:=rowS_slice h.row
 have H:=hid h
 have hsub:(((l.length - 1:Nat):Int))=(l.length:Int) - 1:=by omega
 have HSUB:=hid hsub
 clear hst hl
 rcases atI_cases l.dropLast hs with⟨hI,hg⟩|⟨i,e,hI,hi,_,hg⟩
 · have HE:Hid (abvE l F.L=6):=hid (by rw[abvE,hg])
   rw[hI] at AT
   have AT:=hid AT
   unfold ptr at*
   clear hI hg hs h hsub
   go_enter Tryz.func71,Tryz.ntmps71
   go_wp2_with fail
   refine AT.out.mono ?_
   rintro ex w2 ⟨rfl,hb2⟩
   have HB2:=hid hb2
   clear hb2 AT
   go_wp2
   go_ret
   rw[HE.out]
   exact⟨rfl,HB2.out⟩
 · have HE:Hid (abvE l F.L=if e.at_.node=2 then 0 else 11):=hid (by rw[abvE,hg])
   rw[hI] at AT
   have AT:=hid AT
   obtain⟨n,hn,hne⟩:=h.get hi
   have HN:=hid hn
   have hi1:i < R.length:=(List.getElem?_eq_some_iff.1 hn).1
   have HIN:Hid (∀ {w2:World},Below w.heap.size w w2→∃ gv cap,Value.slice va R.length vc= .slice (some ⟨gv,0,none⟩) R.length cap∧w2.cell? ⟨r,0,none⟩=some (.slice (some ⟨gv,0,none⟩) R.length cap)∧w2.cell? ⟨gv,i*11+1,none⟩=some (.int .u8 (n.at_.node:Int))):=hid (fun hb=>by
    have HX:=H.out.below hb
    obtain⟨gv,cap,hv,hgv⟩:=HX.form (by omega)
    injection hv with e1 e2 e3
    subst e1 e3
    exact⟨gv,vc,rfl,cell_of_heap HX.book,HX.ent HN.out 1 _ rfl⟩)
   have hnode:n.at_.node=e.at_.node:=by rw[←hne];rfl
   rw[←hnode] at HE
   unfold ptr at*
   clear hI hg hs h hsub hi hn hne hnode
   by_cases h2:n.at_.node=2
   · have HE2:Hid (abvE l F.L=0):=hid (by rw[HE.out,if_pos h2])
     have q1:((n.at_.node:Int)==2)=true:=by simp[h2]
     clear h2
     go_enter Tryz.func71,Tryz.ntmps71
     go_wp2_with fail
     refine AT.out.mono ?_
     rintro ex w2 ⟨rfl,hb2⟩
     obtain⟨gv,cap,hv,c0,c1⟩:=HIN.out hb2
     injection hv with e1 e2 e3
     subst e1 e3
     clear e2
     have HB2:=hid hb2
     clear hb2 AT
     go_wp2
     go_ret
     rw[HE2.out]
     exact⟨rfl,HB2.out⟩
   · have HE2:Hid (abvE l F.L=11):=hid (by rw[HE.out,if_neg h2])
     have q1:((n.at_.node:Int)==2)=false:=by rw[beq_eq_false_iff_ne];omega
     clear h2
     go_enter Tryz.func71,Tryz.ntmps71
     go_wp2_with fail
     refine AT.out.mono ?_
     rintro ex w2 ⟨rfl,hb2⟩
     obtain⟨gv,cap,hv,c0,c1⟩:=HIN.out hb2
     injection hv with e1 e2 e3
     subst e1 e3
     clear e2
     have HB2:=hid hb2
     clear hb2 AT
     go_wp2
     go_ret
     rw[HE2.out]
     exact⟨rfl,HB2.out⟩
def HoldN (w:World) (x:Value) (m:Nat) (cs:List Value):Prop:=
 (∃ a c,x= .slice (some a) m c∧∀ (j:Nat) u,cs[j]? =some u→w.cell? (a.add j)=some u)∨(∃ c,x= .slice none 0 c∧m=0∧cs=[])
theorem HoldN.kept {w w':World} {x:Value} {m:Nat} {cs:List Value} (h:HoldN w x m cs) (hb:∀ a c,x= .slice (some a) m c→cs≠[]→w'.heap[a.block]? =w.heap[a.block]?):HoldN w' x m cs:=by
 rcases h with⟨a,c,rfl,hc⟩|h
 · refine .inl ⟨a,c,rfl,fun j u hj=>(World.cell?_of_block (by rw[addr_block];exact hb a c rfl (by rintro rfl;cases hj))).trans (hc j u hj)⟩
 · exact .inr h
section
variable {P:Program}
theorem run_append_holdN (size:Nat) (hpos:0 < size) {w:World} (base:Nat) (t ty e:TypeId) (i:TypeInfo) (z:Value) (bytes:Nat) (ht:P.underlying t=some (.slice e)) (hi:P.info? e=some i) (hz:i.zero=some z)
 (hsize:i.size=size) (hby:i.bytes=bytes) (hzs:z.cells.size=size) (v:Value) (n:Nat) (xs:List Value) (hown:w.ownsRow base e size v n xs)
 (x:Value) (m:Nat) (cs:List Value) (hx:HoldN w x m cs) (hl:cs.length=m*size) (h1:∀ u∈cs,u.oneCell'=true) (h63:n+m≤maxLen) (hbytes:(n+m)*bytes≤140737488355328) (hbase:base≤w.heap.size):
 ∃ v' w',(Builtin.append_ #[t,t] ty #[v,x]).run P w= .ok v' w'∧w'.ownsRow base e size v' (n+m) (xs++cs)∧w.grownBy w' v.ownBlock∧(v'.ownBlock=v.ownBlock∨v'.ownBlock=some w.heap.size):=by
 rcases hx with⟨a,c,rfl,hc⟩|⟨c,rfl,rfl,rfl⟩
 · obtain⟨v',w',h1,h2,h3,_,h5⟩:=run_append_own_at (P:=P) w base t ty e i z size bytes ht hi hz hsize hby hzs hpos v n xs hown a m c cs hl hc h1 h63 hbytes hbase
   exact⟨v',w',h1,h2,h3,h5⟩
 · refine⟨v,w,?_,by simpa using hown,⟨rfl,rfl,rfl,Nat.le_refl _,fun _ _ _=>rfl⟩,.inl rfl⟩
   rcases hown.2 with⟨rfl,rfl⟩|⟨g,cap,cur,rfl,_,_,hnc,_⟩
   · simp[Builtin.append_,run_underlying ht,sizeOf,typeInfo,hi,Builtin.lenOf,Builtin.firstCells]
   · simp[Builtin.append_,run_underlying ht,sizeOf,typeInfo,hi,Builtin.lenOf,Builtin.firstCells,hnc,storeCells]
theorem wp_append_holdN (size:Nat) (hpos:0 < size) {o:Oper} {a:Act} {w:World} {K:Act→World→Prop} {Q:Exit→Act→World→Prop} (s x:Operand) (t:TypeId) (ho:o.op= .call {callee:= .builtin .append,args:= #[s,x],argTypes:= #[t,t]})
 (base:Nat) (e:TypeId) (i:TypeInfo) (z:Value) (bytes:Nat) (ht:P.underlying t=some (.slice e)) (hi:P.info? e=some i) (hz:i.zero=some z)
 (hsize:i.size=size) (hby:i.bytes=bytes) (hzs:z.cells.size=size) (v:Value) (n:Nat) (xs:List Value) (hs:a.eval s=v) (hown:w.ownsRow base e size v n xs)
 (xv:Value) (m:Nat) (cs:List Value) (hxv:a.eval x=xv) (hx:HoldN w xv m cs) (hl:cs.length=m*size) (h1:∀ u∈cs,u.oneCell'=true) (h63:n+m≤maxLen) (hbytes:(n+m)*bytes≤140737488355328) (hbase:base≤w.heap.size)
 (h:∀ v' w',w'.ownsRow base e size v' (n+m) (xs++cs)→w.grownBy w' v.ownBlock→(v'.ownBlock=v.ownBlock∨v'.ownBlock=some w.heap.size)→K (a.put o.dst v') w'):o.wp P a w K Q:=by
 obtain⟨v',w',hr,h2,h3,h4⟩:=run_append_holdN (P:=P) size hpos base t o.type e i z bytes ht hi hz hsize hby hzs v n xs hown xv m cs hx hl h1 h63 hbytes hbase
 unfold Oper.wp execOp
 simp only[ho,resolve,invoke,builtin,Sem.run_bind,Sem.run_pure,Result.andThen_ok,List.map_toArray,List.map_cons,List.map_nil,hs,hxv,hr]
 exact h v' w' h2 h3 h4
theorem run_buildNoneN (size:Nat) (w:World) (t e:TypeId) (i:TypeInfo) (z:Value) (ht:P.underlying t=some (.slice e)) (hi:P.info? e=some i) (hz:i.zero=some z) (hs:i.size=size):
 (Instr.buildSlice t 0 #[]).run P w= .ok (.slice (some ⟨w.heap.size,0,none⟩) 0 0) (w.alloc (.cells #[] e)):=by
 simp[Instr.buildSlice,run_underlying ht,sizeOf,typeInfo,hi,hs,zeroValue,hz,Instr.fill,newRow,Result.andThen]
 have hr0:Array.range 0= #[]:=by simp[Array.range]
 rw[hr0];simp
theorem own_noneN (size:Nat) (w:World) (e:TypeId):(w.alloc (.cells #[] e)).ownsRow w.heap.size e size (.slice (some ⟨w.heap.size,0,none⟩) 0 0) 0 []:=
 World.ownsRow_lit w #[] 0 (Nat.le_refl _) (Nat.zero_le _) (by simp)
theorem wp_noneN (size:Nat) {o:Oper} {a:Act} {w:World} {K:Act→World→Prop} {Q:Exit→Act→World→Prop} (t e:TypeId) (i:TypeInfo) (z:Value) (ho:o.op= .buildSlice t 0 #[]) (ht:P.underlying t=some (.slice e)) (hi:P.info? e=some i) (hz:i.zero=some z) (hs:i.size=size)
 (h:∀ x w2,w2.ownsRow w.heap.size e size x 0 []→w.grownBy w2 none→(∀ b,x.ownBlock=some b→b=w.heap.size)→K (a.put o.dst x) w2):o.wp P a w K Q:=by
 have hrun:=run_buildNoneN size w t e i z ht hi hz hs
 have h2:=h _ _ (own_noneN size w e) (World.grownBy_alloc w _ _) (fun b hb=>by simpa [Value.ownBlock] using hb.symm)
 unfold Oper.wp
 simp[execOp,ho,hrun,Result.andThen]
 exact h2
theorem wp_oneH (size:Nat) (hp0:0 < size) (hp1:¬ 16777216 < size) {o:Oper} {a:Act} {w:World} {K:Act→World→Prop} {Q:Exit→Act→World→Prop} (t e:TypeId) (x:Operand) (cs:List Value) (i:TypeInfo) (z:Value) (ho:o.op= .buildSlice t 1 #[(0,x)]) (hx:a.eval x= .agg cs.toArray)
 (ht:P.underlying t=some (.slice e)) (hi:P.info? e=some i) (hz:i.zero=some z) (hs:i.size=size) (hl:cs.length=size)
 (h:∀ y w2,HoldN w2 y 1 cs→w.grownBy w2 none→(∀ ad c,y= .slice (some ad) 1 c→ad.block=w.heap.size)→w.heap.size < w2.heap.size→K (a.put o.dst y) w2):o.wp P a w K Q:=by
 refine wp_oneN size hp0 hp1 t e x cs i z ho hx ht hi hz hs hl (h _ _ (.inl ⟨⟨w.heap.size,0,none⟩,1,rfl,fun j u hj=>?_⟩) (World.grownBy_alloc w _ _) (fun ad c e=>by injection e with e1;injection e1 with e1;rw[←e1]) (by rw[one_size];omega))
 rw[Addr.add_lit,Nat.zero_add,cell_of_heap (MapKept.heap_alloc w _).1,List.getElem?_toArray];exact hj
end
section
variable {P:Program} {ops:Array Oper} {Q:Exit→Act→World→Prop} {o:Oper} {rest:List Oper} {a:Act} {w:World}
theorem wpList_appendN (size:Nat) (hpos:0 < size) (hgd:o.guard=none) (s x:Operand) (t:TypeId) (ho:o.op= .call {callee:= .builtin .append,args:= #[s,x],argTypes:= #[t,t]})
 (base:Nat) (e:TypeId) (i:TypeInfo) (z:Value) (bytes:Nat) (ht:P.underlying t=some (.slice e)) (hi:P.info? e=some i) (hz:i.zero=some z)
 (hsize:i.size=size) (hby:i.bytes=bytes) (hzs:z.cells.size=size) (v:Value) (n:Nat) (xs:List Value) (hs:a.eval s=v) (hown:w.ownsRow base e size v n xs)
 (xv:Value) (m:Nat) (cs:List Value) (hxv:a.eval x=xv) (hx:HoldN w xv m cs) (hl:cs.length=m*size) (h1:∀ u∈cs,u.oneCell'=true) (h63:n+m≤maxLen) (hbytes:(n+m)*bytes≤140737488355328) (hbase:base≤w.heap.size)
 (h:∀ v' w',w'.ownsRow base e size v' (n+m) (xs++cs)→w.grownBy w' v.ownBlock→(v'.ownBlock=v.ownBlock∨v'.ownBlock=some w.heap.size)→wpList P ops Q rest (a.put o.dst v') w'):wpList P ops Q (o::rest) a w:=
 wpList_plain hgd fun _ hK=>wp_append_holdN size hpos s x t ho base e i z bytes ht hi hz hsize hby hzs v n xs hs hown xv m cs hxv hx hl h1 h63 hbytes hbase (fun v' w' a b c=>hK _ _ (h v' w' a b c))
theorem wpList_oneH (size:Nat) (hp0:0 < size) (hp1:¬ 16777216 < size) (hgd:o.guard=none) (t e:TypeId) (x:Operand) (cs:List Value) (i:TypeInfo) (z:Value) (ho:o.op= .buildSlice t 1 #[(0,x)]) (hx:a.eval x= .agg cs.toArray)
 (ht:P.underlying t=some (.slice e)) (hi:P.info? e=some i) (hz:i.zero=some z) (hs:i.size=size) (hl:cs.length=size)
 (h:∀ y w2,HoldN w2 y 1 cs→w.grownBy w2 none→(∀ ad c,y= .slice (some ad) 1 c→ad.block=w.heap.size)→w.heap.size < w2.heap.size→wpList P ops Q rest (a.put o.dst y) w2):wpList P ops Q (o::rest) a w:=
 wpList_plain hgd fun _ hK=>wp_oneH size hp0 hp1 t e x cs i z ho hx ht hi hz hs hl (fun y w2 h1 h2 h3 h4=>hK _ _ (h y w2 h1 h2 h3 h4))
end
theorem xs_hold {w:World} {v:Value} {xs:Xs} (h:XsAt w v xs):HoldN w v xs.length (xcells xs):=by
 obtain⟨a,cap,rfl,_,_,hc⟩:=h
 cases xs with
 |nil=>
  cases a with
  |none=>exact .inr ⟨cap,rfl,rfl,rfl⟩
  |some ad=>exact .inl ⟨ad,cap,rfl,fun j u hj=>by cases hj⟩
 |cons x r=>
  obtain⟨b,o,rfl,_,hcl⟩:=hc (by simp)
  refine .inl ⟨⟨b,o,none⟩,cap,rfl,fun j u hj=>?_⟩
  rw[Addr.add_lit]
  have hcell:∀ (ys:Xs) (k j:Nat) u,(∀ (i:Nat) y,ys[i]? =some y→w.cell? ⟨b,k+i*2,none⟩=some (.string ⟨y.1.toArray⟩)∧w.cell? ⟨b,k+i*2+1,none⟩=some (.string ⟨y.2.toArray⟩))→(xcells ys)[j]? =some u→w.cell? ⟨b,k+j,none⟩=some u:=by
   intro ys
   induction ys with
   |nil=>intro k j u _ hj;cases hj
   |cons y ys ih=>
    intro k j u hy hj
    match j,hj with
    |0,hj=>obtain rfl:=Option.some.inj hj;exact(hy 0 y rfl).1
    |1,hj=>obtain rfl:=Option.some.inj hj;exact(hy 0 y rfl).2
    |j+2,hj=>
     have:=ih (k+2) j u (fun i z hz=>by
      have h:=hy (i+1) z hz
      rw[show k+(i+1)*2=k+2+i*2 by omega] at h
      exact h) hj
     rw[show k+(j+2)=k+2+j by omega];exact this
  exact hcell _ o j u hcl hj
theorem xs_of_ownE {w:World} {B:Nat} {e:TypeId} {v:Value} {xs:Xs} (h:w.ownsRow B e 2 v xs.length (xcells xs)) (hl:∀ x∈xs,x.1.length≤maxLen∧x.2.length≤maxLen):XsAt w v xs∧∀ b∈xob xs v,B≤b:=by
 obtain⟨a,c,rfl⟩:=rowS_slice h
 have hm:xs.length≤maxLen:=by
  rcases h with⟨_,⟨_,h0⟩|⟨g,cap,cur,_,_,_,h1,h2,_⟩⟩
  · rw[h0];exact Nat.zero_le _
  · exact Nat.le_trans h1 h2
 refine⟨⟨a,c,rfl,hm,hl,fun hne=>?_⟩,fun b hb=>?_⟩
 · obtain⟨g,cap,hv,hg,_,_,hc⟩:=rowS_form h (fun h0=>hne (List.length_eq_zero_iff.1 h0))
   injection hv with e1 _ _
   subst e1
   refine⟨g,0,rfl,hg,fun i x hx=>?_⟩
   obtain⟨h1,h2⟩:=xcells_at hx
   rw[Nat.zero_add]
   exact⟨hc _ _ h1,hc _ _ h2⟩
 · cases xs with
   |nil=>simp [xob] at hb
   |cons x r=>
    obtain⟨g,cap,hv,hg,hB,_,hc⟩:=rowS_form h (by simp)
    injection hv with e1 _ _
    subst e1
    simp[xob] at hb
    subst hb;exact hB
abbrev AtR:TypeId:=67
theorem infoAtR (A:XA) (v:Value):(Tryz.prog.info? AtR).map (·.size)=some (A.cells v).toArray.size:=by show _=some 7;kernel_rfl
theorem infoXaR:(Tryz.prog.info? 147).map (fun i=>(i.zero,i.size,i.bytes))=some (some (.agg #[.string ⟨#[]⟩,.string ⟨#[]⟩]),2,32):=by kernel_rfl
theorem rown_any (w:World) (A:XA) (v:Value) (h:XsAt w v A.xs) (hl:A.xs.length≤1000):
 Calls Tryz.prog 45 #[.agg (A.cells v).toArray] w fun e w'=>∃ v',e= .returned (.agg (A.cells v').toArray)∧XsAt w' v' A.xs∧(∀ b∈xob A.xs v',w.heap.size≤b)∧Below w.heap.size w w':=by
 obtain⟨i0,hi0,hz0,hz1,hz2⟩:=info_parts infoXaR
 have hz3:(Value.agg #[.string ⟨#[]⟩,.string ⟨#[]⟩]).cells.size=2:=by kernel_rfl
 obtain⟨W,hW⟩:∃ W,W=((w.alloc (.cells (A.cells v).toArray AtR)).alloc (.cells (zeroA.cells (.slice none 0 0)).toArray AtR)).alloc (.cells #[] 147):=⟨_,rfl⟩
 have hb0:Below w.heap.size w W:=by rw[hW];exact(((Below.refl _ _).alloc (Nat.le_refl _) _).alloc (by rw[one_size];omega) _).alloc (by rw[one_size,one_size];omega) _
 have hq0:W.heap[w.heap.size]? =some (.cells (A.cells v).toArray AtR):=by rw[hW];exact at_alloc (at_alloc (MapKept.heap_alloc w _).1 _) _
 have hr0:W.heap[w.heap.size+1]? =some (.cells (zeroA.cells (.slice none 0 0)).toArray AtR):=by
  have:=(MapKept.heap_alloc (w.alloc (.cells (A.cells v).toArray AtR)) (.cells (zeroA.cells (.slice none 0 0)).toArray AtR)).1
  rw[one_size] at this
  rw[hW];exact at_alloc this _
 have ho0:W.ownsRow (w.heap.size+2) 147 2 (.slice (some ⟨w.heap.size+2,0,none⟩) 0 0) 0 []:=by
  have:=own_noneN 2 ((w.alloc (.cells (A.cells v).toArray AtR)).alloc (.cells (zeroA.cells (.slice none 0 0)).toArray AtR)) 147
  rw[←hW,one_size,one_size] at this
  exact this
 have hws:W.heap.size=w.heap.size+3:=by rw[hW,one_size,one_size,one_size]
 have HX0:=hid (h.kept hb0.size (fun b hb=>hb0.block b (h.lt b hb)))
 have HFX:=hid (show ∀ x∈A.xs,x.1.length≤maxLen∧x.2.length≤maxLen from by obtain⟨_,_,_,_,h2,_⟩:=h;exact h2)
 have HLT:=hid (HX0.out.lt)
 have cq:(((w.alloc (.cells (A.cells v).toArray AtR)).alloc (.cells #[.int .u8 0,.int .u32 0,.int .u32 0,.int .u32 0,.int .i64 0,.string ⟨#[]⟩,.slice none 0 0] AtR)).alloc (.cells #[] 147)).cell? ⟨w.heap.size,6,none⟩=some v:=by
  show(((w.alloc (.cells (A.cells v).toArray AtR)).alloc (.cells (zeroA.cells (.slice none 0 0)).toArray AtR)).alloc (.cells #[] 147)).cell? _=_
  rw[←hW];exact cell_of_heap hq0
 have HB0:=hid hb0;have HQ0:=hid hq0;have HR0:=hid hr0;have HW:=hid hW;have HWS:=hid hws;have HL:=hid hl;have HO0:=hid ho0
 obtain⟨va,vc,rfl,_⟩:=h
 clear hb0 hq0 hr0 hW hl hws ho0
 go_enter Tryz.func45,Tryz.ntmps45
 go_wp2_with (first
  |(refine wpList_appendN 2 (by decide) rfl _ _ 65 rfl (w.heap.size+2) 147 i0 _ 32 Tryz.underlying65 hi0 hz0 hz1 hz2 hz3 (.slice (some ⟨w.heap.size+2,0,none⟩) 0 0) 0 [] rfl (by have h:=HO0.out;rw[HW.out] at h;exact h) _ A.xs.length (xcells A.xs) rfl (by have h:=xs_hold HX0.out;rw[HW.out] at h;exact h) (xcells_length _) (xcells_one _) (by have:=HL.out;unfold maxLen;omega) (by have:=HL.out;omega) (by have h:=HWS.out;rw[HW.out] at h;exact(show w.heap.size+2≤_ from by first|exact Nat.le_trans (by omega) (Nat.le_of_eq h.symm)|omega)) ?_
    intro v' w3 ho3 hg3 hv3
    have HG3:Hid (W.grownBy w3 (some (w.heap.size+2))):=hid (by rw[HW.out];exact hg3)
    have HO3:Hid (w3.ownsRow (w.heap.size+2) 147 2 v' A.xs.length (xcells A.xs)):=hid (by simpa using ho3)
    have hq3:w3.heap[w.heap.size]? =some (.cells (A.cells (.slice va A.xs.length vc)).toArray AtR):=(HG3.out.block _ (lt_of_heap HQ0.out) (by simp)).trans HQ0.out
    have HR3:=hid ((HG3.out.block _ (lt_of_heap HR0.out) (by simp)).trans HR0.out)
    have f3:w3.frozen? ⟨w.heap.size,6,none⟩=false:=frozen_of_heap hq3
    have c3:w3.cell? ⟨w.heap.size,6,none⟩=some (.slice va A.xs.length vc):=cell_of_heap hq3
    have HB3:Hid (Below w.heap.size w w3):=hid (HB0.out.grown HG3.out HB0.out.size (fun k hk=>by injection hk with hk;omega))
    obtain⟨va',vc',rfl⟩:=rowS_slice HO3.out
    have HQ4:Hid ((w3.setCell ⟨w.heap.size,6,none⟩ (.slice va' A.xs.length vc')).heap[w.heap.size]? =some (.cells (A.cells (.slice va' A.xs.length vc')).toArray AtR)):=hid (by rw[setCell_heap _ _ _ _ _ _ hq3];rfl)
    have HR4:Hid ((w3.setCell ⟨w.heap.size,6,none⟩ (.slice va' A.xs.length vc')).heap[w.heap.size+1]? =some (.cells (zeroA.cells (.slice none 0 0)).toArray AtR)):=hid ((Below.heap_setCell _ _ _ _ (show w.heap.size+1≠w.heap.size by omega)).trans HR3.out)
    have HB4:Hid (Below w.heap.size w (w3.setCell ⟨w.heap.size,6,none⟩ (.slice va' A.xs.length vc'))):=hid (HB3.out.setCell (Nat.le_refl _) _)
    clear ho3 hg3 hv3 hq3)
  |(refine Sh.wpList_load_at (T:=AtR) (cs:=(A.cells (.slice va' A.xs.length vc')).toArray) HQ4.out rfl AtR (.tmp 1) rfl rfl _ Tryz.underlying67 rfl (infoAtR _ _) ?_)
  |(refine Sh.wpList_store_at HR4.out rfl AtR (.tmp 2) (.tmp 8) rfl (A.cells (.slice va' A.xs.length vc')).toArray rfl rfl (infoAtR _ _) rfl (atOne A rfl) ?_
    intro w5 hq5 ht5 hs5
    have HQ5:=hid hq5;have HT5:=hid ht5
    clear hq5 ht5 hs5))
 refine bodyPost_ret (v:= .agg (A.cells (.slice va' A.xs.length vc')).toArray) (results_cell_row (fn:=Tryz.f45) rfl _ _ (w.heap.size+1) _ _ _ _ rfl HQ5.out Tryz.underlying67 rfl (infoAtR _ _)) rfl ?_
 have hB5:Below w.heap.size w w5:=HB4.out.trans (HT5.out.below (by simp) HB4.out.size)
 have hk:∀ b,w.heap.size+2≤b→b < w3.heap.size→w5.heap[b]? =w3.heap[b]? :=fun b hb hlt=>by
  rw[HT5.out.block b (by rw[World.size_setCell];exact hlt) (by simp;omega)]
  exact Below.heap_setCell _ _ _ _ (show b≠w.heap.size by omega)
 have hge:∀ b∈ob (.slice va' A.xs.length vc'),w.heap.size+2≤b:=rowS_ge HO3.out
 have hro:=xs_of_ownE (rowS_kept HO3.out (fun b hb hl=>hk b (hge b hb) hl)) HFX.out
 exact⟨_,rfl,hro.1,fun b hb=>by have:=hro.2 b hb;omega,hB5⟩
end Go.Proofs.YtnmejonfdfdegaaGreatDoor.Sr
