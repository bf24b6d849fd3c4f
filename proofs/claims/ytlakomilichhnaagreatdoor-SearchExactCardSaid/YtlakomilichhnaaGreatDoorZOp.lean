/- Texts of this seat's, what the claim needs of them. -/
import Derived.Test.YtlakomilichhnaaGreatDoorZOl
import Derived.Test.YtlakomilichhnaaGreatDoorZOg
namespace Go.Proofs.YtlakomilichhnaaGreatDoor
set_option maxHeartbeats 6400000
set_option maxRecDepth 100000
open Go.RowKit
open Go renaming Calls→Ac,World→A9
open Instr renaming next→Ht
open Lib renaming OthersKept→Ms,below_iterAt→Jy,hid→J,iterAt_heap→K5,iterAt_size→Ls,run_next_any_at→Ie,run_next_end_at→If,size_eq→Ak,toList_data→AA
open List renaming drop_drop→BT,drop_eq_nil_of_le→AB,drop_zero→AM,getElem?_map→AE,length_drop→AG,length_pos_iff→BV,length_take_le→JJ
open Nat renaming le_trans→AK,lt_or_ge→Cv,zero_le→Ae
open Option renaming none→A4,some→A2
open Proofs.Tryz renaming prog→A3
open RowKit renaming Below→A6
open RowKit.Below renaming refl→Ab
open Sr renaming keyStep→Ed
open Tx renaming drop_ne→G7,foldC→Am,foldS→Do,foldS_valid→Me,foldStep→Dv,foldT→BH,foldT_nil→Ge,foldT_step→I4,newb→Aa,rdec→Bv,rdec_rune→IE,retb→Ay,sepW→F0,size_mk→Fp,valid→AL,valid_head→IV,wid_pos→JY
open World renaming iterPos→Bu,iter_heap→K4
open _root_.Array renaming getElem?_eq_some_iff→AN
open _root_.ByteArray renaming size_append→EA
theorem WriteRuneI_c (B b:Nat) (l:List UInt8) (r:Int) (h0:0≤r) (hr:r≤65535) (w:A9) (h:BIs B b l w) (hlen:l.length+4≤140737488355328) (hBw:B≤w.heap.size) :
  Ac A3 162 #[.pointer (A2 ⟨b,0,A4⟩),.int .i32 r] w fun e w'=>(∃ n,e=.returned (.tuple #[.int .i64 n,.nilIface]))∧BIs B b (l++Lib.encodeRune r) w'∧A6 B w w'∧Ms 5 (A2 b) w w':=by
 obtain⟨n,rfl⟩:=Int.eq_ofNat_of_zero_le h0
 exact WriteRune_c B b l n (by omega) w h hlen hBw
theorem Split_acc_c (s:ByteArray) (w:A9) (hs:s.data.toList=Tx.accL) (hG:G w) :
  Ac A3 161 #[.string s,.string ⟨#[44]⟩] w fun e w'=>e=.returned (.slice (A2 ⟨w.heap.size,0,A4⟩) 64 64)∧(∀ k,k<64→w'.cell? ⟨w.heap.size,k,A4⟩=A2 (.string ⟨(Am (192+k)).toArray⟩))∧A6 w.heap.size w w'∧w.heap.size<w'.heap.size:=by
 obtain⟨m,hm⟩:=hG.m
 have hc:Lib.countB s ⟨#[44]⟩=63:=by
  unfold Lib.countB
  rw[hs]
  exact Tx.acc_count
 have hsz:s.size=189+0∨s.size<4294967281:=by
  rw[Ak,hs]
  exact .inr (by decide +kernel)
 refine (Tryz.strings_Split s ⟨#[44]⟩ m w (by omega) hm (by decide)).mono fun e w' ⟨he,hw⟩=>?_
 rw[hc]at he hw
 have hd:=Lib.splitB_data (⟨#[44]⟩:ByteArray) 0 63 s
 have h63:Lib.splitK [44] 0 63 Tx.accL=(List.range 64).map fun k=>Am (192+k):=by
  have:=Tx.acc_split
  unfold Lib.split at this
  rw[Tx.acc_count]at this
  exact this
 rw[hs]at hd
 have hd2:=hd.trans h63
 subst hw
 refine⟨he,fun k hk=>?_,Aa _ _,by simp⟩
 have h1:=cell_of_row (w.alloc (.cells ((Lib.splitB (⟨#[44]⟩:ByteArray) 0 63 s).map Value.string).toArray 9)) w.heap.size k _ _ (0,0) (heap_alloc_new w _)
 rw[h1,List.getElem?_toArray,AE]
 have h2:=congrArg (·[k]?) hd2
 simp only[AE]at h2
 rw[List.getElem?_range hk,Option.map_some,Option.map_eq_some_iff]at h2
 obtain⟨x,hx,e2⟩:=h2
 rw[hx,← e2]
 rfl
theorem text_Fold_c (s:ByteArray) (w:A9) (hG:G w) (hs:s.size≤1000000000) (hv:AL s.data.toList=true) :
  Ac A3 95 #[.string s] w fun e w'=>e=.returned (.string ⟨(Do s.data.toList).toArray⟩)∧A6 w.heap.size w w':=by
 obtain⟨F,hF⟩:∃ F,Do s.data.toList=F:=⟨_,rfl⟩
 have HF:=J hF;clear hF
 have HV:=J hv;clear hv
 go_enter Tryz.func95,Tryz.ntmps95
 go_wp2_with (go_at_call 161;refine (Split_acc_c _ _ (by decide +kernel) hG).mono ?_;rintro e w1 ⟨rfl,hpl,hb1,hlt1⟩)
 have HPL:=J hpl;clear hpl
 go_loopw [6] (fun _ wr=>∃ (pos:Nat) (out:List UInt8),pos≤s.size∧BIs w1.heap.size w1.heap.size out wr∧wr.heap[w1.heap.size+1]?=A2 (.stringIter s pos)∧A6 w1.heap.size w1 wr∧Hid (BH Dv out (s.data.toList.drop pos)=F)∧Hid (AL (s.data.toList.drop pos)=true)∧out.length≤2*pos) (fun _ wr=>s.size - wr.iterPos (w1.heap.size+1))
 case atStart =>
  refine⟨0,[],Ae _,(Lib.IsBuilderF.of (Lib.fresh_isBuilder 176 5 w1)).alloc _,?_,(Aa _ _).alloc (by simp) _,J (by rw[AM];exact HF.out),J (by rw[AM];exact HV.out),by simp⟩
  have:=K4 (w1.alloc (.cells #[.pointer A4,.slice A4 0 0] 176)) s 0
  simpa using this
 case round =>
  obtain⟨pos,out,hps,hI,hit,hbw,hFo,hVp,hol⟩:=hrel
  have hsz:w1.heap.size+1<wr.heap.size:=(AN.1 hit).1
  by_cases hp:pos<s.size
  ·have hnx:∀ ty,(Ht (.pointer (A2 ⟨w1.heap.size+1,0,A4⟩)) true ty).run A3 wr=_:=fun ty=>Ie wr (w1.heap.size+1) s pos ty hit hp
   have hne:s.data.toList.drop pos≠[]:=G7 (by rw[← Ak];exact hp)
   obtain⟨hz,hd,hw,hv2,_⟩:=IV hne hVp.out
   have hdec:Utf8.decode s pos=Bv (s.data.toList.drop pos):=by rw[← Lib.decodeL_drop,hd]
   have hle:=Tx.wid_le hne
   have hwp:=JY (s.data.toList.drop pos)
   rw[AG,← Ak]at hle
   have hen:=Tx.enc_head hne hz
   have hru:=IE (s.data.toList.drop pos)
   have hst:=I4 Dv out hne
   rw[hFo.out,BT]at hst
   rw[BT]at hv2
   rw[← hw]at hen
   rw[hdec,← hw]at hnx
   generalize hK:Tx.wid (s.data.toList.drop pos)=K at hle hwp hst hv2 hen hnx
   generalize hR:(Bv (s.data.toList.drop pos)).1=R at hru hst hen hnx
   obtain⟨q,hq⟩:∃ q,(s.data.toList.drop pos).take K=q:=⟨_,rfl⟩
   have hql:q.length≤K:=by rw[← hq];exact JJ _ _
   rw[hq]at hst hen
   unfold Dv at hst
   have hI2:=hI.iterAt hit (pos+K)
   have hit2:=K5 wr (w1.heap.size+1) s pos (pos+K) hit
   have hbw2:=Jy hbw (k:=w1.heap.size+1) (by omega) s (pos+K)
   have hsz2:w1.heap.size≤(wr.iterAt (w1.heap.size+1) s (pos+K)).heap.size:=by rw[Ls];omega
   obtain⟨W,hWd⟩:∃ W,wr.iterAt (w1.heap.size+1) s (pos+K)=W:=⟨_,rfl⟩
   rw[hWd]at hnx hit2 hbw2 hI2 hsz2
   have HIT:=J hit
   have HI:=J hit2
   have HEN:=J hen
   have HV2:Hid (AL (s.data.toList.drop (pos+K))=true):=J hv2
   clear hne hz hd hw hv2 hdec hit hI hbw hFo hVp hWd hit2 hq hen hK hR
   by_cases hup:65≤R∧R≤90
   ·rw[Tx.foldP_up hup]at hst
    have heu:=Tx.enc_up hup
    have HS:Hid (BH Dv (out++[UInt8.ofNat (R+32)]) (s.data.toList.drop (pos+K))=F):=J hst.symm
    have HEU:=J heu
    clear hst heu
    obtain⟨g1,g2⟩:=hup
    go_wp2_with (go_at_call 162;refine (WriteRuneI_c w1.heap.size w1.heap.size out _ (by omega) (by omega) _ hI2 (by omega) hsz2).mono ?_;rintro e w3 ⟨⟨n,rfl⟩,hI3,hb3,k3⟩)
    have hI4:BIs w1.heap.size w1.heap.size (out++[UInt8.ofNat (R+32)]) w3:=by
     rw[← HEU.out]
     have e1:((R+32:Nat):Int)=(R:Int)+97 - 65:=by omega
     rw[e1]
     exact hI3
    go_roundw
    case rel=>exact⟨pos+K,out++[UInt8.ofNat (R+32)],by omega,hI4,k3.iter HI.out (by omega),hbw2.trans hb3,HS,HV2,by simp;omega⟩
    case measure=>simp only[Bu,k3.iter HI.out (by omega),HIT.out];omega
   ·by_cases htab:Am R=[]
    ·rw[Tx.foldP_same htab]at hst
     have HS:Hid (BH Dv (out++q) (s.data.toList.drop (pos+K))=F):=J hst.symm
     clear hst
     rcases (show R<65∨(65≤R∧90<R∧R<192)∨(192≤R∧256≤R)∨(192≤R∧R<256) by omega) with g | ⟨g1,g2,g3⟩ | ⟨g1,g2⟩ | ⟨g1,g2⟩
     ·clear htab hup
      go_wp2_with (go_at_call 162;refine (WriteRuneI_c w1.heap.size w1.heap.size out _ (by omega) (by omega) _ hI2 (by omega) hsz2).mono ?_;rintro e w3 ⟨⟨n,rfl⟩,hI3,hb3,k3⟩)
      rw[HEN.out]at hI3
      go_roundw
      case rel=>exact⟨pos+K,out++q,by omega,hI3,k3.iter HI.out (by omega),hbw2.trans hb3,HS,HV2,by simp;omega⟩
      case measure=>simp only[Bu,k3.iter HI.out (by omega),HIT.out];omega
     ·clear htab hup
      go_wp2_with (go_at_call 162;refine (WriteRuneI_c w1.heap.size w1.heap.size out _ (by omega) (by omega) _ hI2 (by omega) hsz2).mono ?_;rintro e w3 ⟨⟨n,rfl⟩,hI3,hb3,k3⟩)
      rw[HEN.out]at hI3
      go_roundw
      case rel=>exact⟨pos+K,out++q,by omega,hI3,k3.iter HI.out (by omega),hbw2.trans hb3,HS,HV2,by simp;omega⟩
      case measure=>simp only[Bu,k3.iter HI.out (by omega),HIT.out];omega
     ·clear htab hup
      have g65:65≤R:=by omega
      have g90:90<R:=by omega
      go_wp2_with (go_at_call 162;refine (WriteRuneI_c w1.heap.size w1.heap.size out _ (by omega) (by omega) _ hI2 (by omega) hsz2).mono ?_;rintro e w3 ⟨⟨n,rfl⟩,hI3,hb3,k3⟩)
      rw[HEN.out]at hI3
      go_roundw
      case rel=>exact⟨pos+K,out++q,by omega,hI3,k3.iter HI.out (by omega),hbw2.trans hb3,HS,HV2,by simp;omega⟩
      case measure=>simp only[Bu,k3.iter HI.out (by omega),HIT.out];omega
     ·obtain⟨k,hkR⟩:∃ k,192+k=R:=⟨R - 192,by omega⟩
      have hk:k<64:=by omega
      have hpc:=cell_later hbw2 (HPL.out k hk)
      rw[hkR,htab]at hpc
      have g65:65≤R:=by omega
      have g90:90<R:=by omega
      have he:(R:Int) - 192=(k:Int):=by omega
      clear htab hup hkR
      go_wp2_with (go_at_call 162;refine (WriteRuneI_c w1.heap.size w1.heap.size out _ (by omega) (by omega) _ hI2 (by omega) hsz2).mono ?_;rintro e w3 ⟨⟨n,rfl⟩,hI3,hb3,k3⟩)
      rw[HEN.out]at hI3
      go_roundw
      case rel=>exact⟨pos+K,out++q,by omega,hI3,k3.iter HI.out (by omega),hbw2.trans hb3,HS,HV2,by simp;omega⟩
      case measure=>simp only[Bu,k3.iter HI.out (by omega),HIT.out];omega
    ·rw[Tx.foldP_tab htab]at hst
     have hr:192≤R∧R<256:=by
      rcases Cv R 192 with h9 | h9
      ·exact absurd (Tx.foldC_out hup (.inl h9)) htab
      ·rcases Cv 255 R with h8 | h8
       ·exact absurd (Tx.foldC_out hup (.inr h8)) htab
       ·omega
     obtain⟨k,hkR⟩:∃ k,192+k=R:=⟨R - 192,by omega⟩
     have hk:k<64:=by omega
     have hpc:=cell_later hbw2 (HPL.out k hk)
     rw[hkR]at hpc
     have hfl:=Tx.foldC_len R
     obtain⟨fc,hfc⟩:∃ fc,Am R=fc:=⟨_,rfl⟩
     rw[hfc]at hpc hst htab hfl
     have hfe:fc.isEmpty=false:=by simpa using htab
     have HS:Hid (BH Dv (out++fc) (s.data.toList.drop (pos+K))=F):=J hst.symm
     have g65:65≤R:=by omega
     have g90:90<R:=by omega
     have he:(R:Int) - 192=(k:Int):=by omega
     obtain⟨g1,g2⟩:=hr
     clear hst htab hup hfc hkR
     go_wp2_with (go_at_call 163;refine (WriteString_c w1.heap.size w1.heap.size out _ _ hI2 (by rw[Fp];omega) hsz2).mono ?_;rintro e w3 ⟨rfl,hI3,hb3,k3⟩)
     go_roundw
     case rel=>exact⟨pos+K,out++fc,by omega,hI3,k3.iter HI.out (by omega),hbw2.trans hb3,HS,HV2,by simp;omega⟩
     case measure=>simp only[Bu,k3.iter HI.out (by omega),HIT.out];omega
  ·have hnx:∀ ty,(Ht (.pointer (A2 ⟨w1.heap.size+1,0,A4⟩)) true ty).run A3 wr=_:=fun ty=>If wr (w1.heap.size+1) s pos ty hit hp
   have hfin:out=F:=by
    rw[← hFo.out,AB (by rw[← Ak];omega),Ge]
   have HFIN:=J hfin;clear hfin
   have hwsz:w1.heap.size≤wr.heap.size:=hbw.size
   go_wp2_with (go_at_call 164;refine (Tryz.Builder_String_any_f w1.heap.size w1.heap.size out _ hI hwsz).mono ?_;rintro e w3 ⟨rfl,hI3,hb3⟩)
   go_ret
   exact⟨Tx.rets (by rw[HFIN.out,HF.out]),(hb1.trans ((hbw.trans hb3).mono hb1.size))⟩
theorem text_sep_c (c:Nat) (w:A9) :
  Ac A3 267 #[.int .i32 c] w fun e w'=>e=.returned (.bool (F0 c))∧A6 w.heap.size w w':=by
 obtain⟨b,hb⟩:∃ b,F0 c=b:=⟨_,rfl⟩
 rw[hb]
 unfold F0 Tx.letter at hb
 go_enter Tryz.func267,Tryz.ntmps267
 rcases (show c<48∨(48≤c∧c≤57)∨(57<c∧c<97)∨(97≤c∧c≤122)∨(122<c∧c<256)∨256≤c by omega) with g | ⟨g1,g2⟩ | ⟨g1,g2⟩ | ⟨g1,g2⟩ | ⟨g1,g2⟩ | g
 ·have:b=true:=by rw[← hb];simp;omega
  subst this;clear hb
  go_wp2
  go_ret
  exact⟨Ay (by first | rfl | (simp;done) | (simp;omega)),Ab _ _⟩
 ·have:b=false:=by rw[← hb];simp;omega
  have g3:c<97:=by omega
  subst this;clear hb
  go_wp2
  go_ret
  exact⟨Ay (by first | rfl | (simp;done) | (simp;omega)),Ab _ _⟩
 ·have:b=true:=by rw[← hb];simp;omega
  have g3:48≤c:=by omega
  have g4:c<256:=by omega
  subst this;clear hb
  go_wp2
  go_ret
  exact⟨Ay (by first | rfl | (simp;done) | (simp;omega)),Ab _ _⟩
 ·have:b=false:=by rw[← hb];simp;omega
  subst this;clear hb
  go_wp2
  go_ret
  exact⟨Ay (by first | rfl | (simp;done) | (simp;omega)),Ab _ _⟩
 ·have:b=true:=by rw[← hb];simp;omega
  have g3:97≤c:=by omega
  have g4:48≤c:=by omega
  have g5:57<c:=by omega
  subst this;clear hb
  go_wp2
  go_ret
  exact⟨Ay (by first | rfl | (simp;done) | (simp;omega)),Ab _ _⟩
 ·have:b=false:=by rw[← hb];simp;omega
  have g3:97≤c:=by omega
  have g4:48≤c:=by omega
  have g5:57<c:=by omega
  have g6:122<c:=by omega
  subst this;clear hb
  go_wp2
  go_ret
  exact⟨Ay (by first | rfl | (simp;done) | (simp;omega)),Ab _ _⟩
theorem text_sep_enters:∀ args w,(callFunc 267 args).run A3 w=.ok (.enter 267 args) w:=enters_of Tryz.func267 (by kernel_rfl) rfl
theorem text_Words_c (s:ByteArray) (w:A9) (hG:G w) (hs:s.size≤1000000000) (hv:AL s.data.toList=true) :
  Ac A3 208 #[.string s] w fun e w'=>∃ A xs,e=.returned (.slice (A2 ⟨A,0,A4⟩) xs.length xs.length)∧xs.map (·.data.toList)=Tx.words s.data.toList∧SLA w' (A2 ⟨A,0,A4⟩) xs.length xs∧w.heap.size≤A∧A6 w.heap.size w w':=by
 have hfl:=Tx.foldS_len hv
 rw[← Ak]at hfl
 have hE:=Tx.fieldsT_eq F0 ⟨(Do s.data.toList).toArray⟩ (Me hv)
 have hn:=Tx.fields_len F0 ⟨(Do s.data.toList).toArray⟩
 rw[Fp]at hn
 have hp:∀ w,PredGrows A3 267 #[] F0 w:=fun w W x _ _=>text_sep_c x W
 have HP:=J hp;clear hp
 have HE:=J hE;clear hE
 have HV:=J hv;clear hv
 go_enter Tryz.func208,Tryz.ntmps208
 go_wp2_with (first
  |(go_at_call 95;refine (text_Fold_c s _ hG hs HV.out).mono ?_;rintro e w1 ⟨rfl,hb1⟩)
  |(go_at_call 167;refine (Tryz.strings_FieldsFunc_grows 267 #[] text_sep_enters F0 _ _ (by rw[Fp];omega) (HP.out _)).mono ?_;rintro e w2 ⟨A,rfl,hA,hown,hb2⟩))
 go_ret
 obtain⟨a,c,h1,h2⟩:=SLA.of_own hown rfl
 cases h1
 exact⟨A,_,rfl,HE.out,h2,AK hb1.size hA,hb1.trans (hb2.mono hb1.size)⟩
namespace Sr
def pk (r L S:Int) (s:ByteArray):ByteArray:=if r=L∨r=S then s else ⟨#[]⟩
theorem pk_data (r L S:Int) (s:ByteArray):(pk r L S s).data.toList=if r=L∨r=S then s.data.toList else []:=by unfold pk;split <;> rfl
theorem pk_size {r L S:Int}{s:ByteArray} (h:s.size≤2):(pk r L S s).size≤2:=by
 unfold pk
 split
 ·exact h
 ·exact Ae _
def withC (lang:By) (c:Nat):By :=
 if lang=[103,101,114] then (if c=196∨c=228 then [97,101] else if c=214∨c=246 then [111,101] else if c=220∨c=252 then [117,101] else [])
 else if lang=[115,119,101] then (if c=197∨c=229 then [123] else if c=196∨c=228 then [124] else if c=214∨c=246 then [125] else [])
 else if lang=[115,112,97] then (if c=209∨c=241 then [110,126] else [])
 else []
theorem replC_with (lang q:By) (c:Nat):replC lang q c=if 123≤c∧c≤126 then [32] else if withC lang c=[] then q else withC lang c:=by
 unfold replC withC
 by_cases h1:123≤c∧c≤126
 ·rw[if_pos h1,if_pos h1]
 ·rw[if_neg h1,if_neg h1]
  by_cases h2:lang=[103,101,114]
  ·simp only[if_pos h2]
   repeat' split
   all_goals first | rfl | contradiction | simp_all
  ·simp only[if_neg h2]
   by_cases h3:lang=[115,119,101]
   ·simp only[if_pos h3]
    repeat' split
    all_goals first | rfl | contradiction | simp_all
   ·simp only[if_neg h3]
    by_cases h4:lang=[115,112,97]
    ·simp only[if_pos h4]
     repeat' split
     all_goals first | rfl | contradiction | simp_all
    ·simp only[if_neg h4]
     rfl
theorem with_ger {lang:By} (h:lang=[103,101,114]) (c:Nat):((pk c 196 228 ⟨#[97,101]⟩++pk c 214 246 ⟨#[111,101]⟩)++pk c 220 252 ⟨#[117,101]⟩).data.toList=withC lang c:=by
 unfold withC
 rw[if_pos h]
 simp only[ByteArray.data_append,Array.toList_append,pk_data]
 have e1:((c:Int)=196∨(c:Int)=228)↔(c=196∨c=228):=by omega
 have e2:((c:Int)=214∨(c:Int)=246)↔(c=214∨c=246):=by omega
 have e3:((c:Int)=220∨(c:Int)=252)↔(c=220∨c=252):=by omega
 by_cases h1:c=196∨c=228
 ·rw[if_pos (e1.2 h1),if_neg (fun h9=>by have:=e2.1 h9;omega),if_neg (fun h9=>by have:=e3.1 h9;omega),if_pos h1]
  rfl
 ·by_cases h2:c=214∨c=246
  ·rw[if_neg (fun h9=>h1 (e1.1 h9)),if_pos (e2.2 h2),if_neg (fun h9=>by have:=e3.1 h9;omega),if_neg h1,if_pos h2]
   rfl
  ·by_cases h3:c=220∨c=252
   ·rw[if_neg (fun h9=>h1 (e1.1 h9)),if_neg (fun h9=>h2 (e2.1 h9)),if_pos (e3.2 h3),if_neg h1,if_neg h2,if_pos h3]
    rfl
   ·rw[if_neg (fun h9=>h1 (e1.1 h9)),if_neg (fun h9=>h2 (e2.1 h9)),if_neg (fun h9=>h3 (e3.1 h9)),if_neg h1,if_neg h2,if_neg h3]
    rfl
theorem with_swe {lang:By} (h:lang=[115,119,101]) (c:Nat):((pk c 197 229 ⟨#[123]⟩++pk c 196 228 ⟨#[124]⟩)++pk c 214 246 ⟨#[125]⟩).data.toList=withC lang c:=by
 unfold withC
 rw[if_neg (by rw[h];decide),if_pos h]
 simp only[ByteArray.data_append,Array.toList_append,pk_data]
 have e1:((c:Int)=197∨(c:Int)=229)↔(c=197∨c=229):=by omega
 have e2:((c:Int)=196∨(c:Int)=228)↔(c=196∨c=228):=by omega
 have e3:((c:Int)=214∨(c:Int)=246)↔(c=214∨c=246):=by omega
 by_cases h1:c=197∨c=229
 ·rw[if_pos (e1.2 h1),if_neg (fun h9=>by have:=e2.1 h9;omega),if_neg (fun h9=>by have:=e3.1 h9;omega),if_pos h1]
  rfl
 ·by_cases h2:c=196∨c=228
  ·rw[if_neg (fun h9=>h1 (e1.1 h9)),if_pos (e2.2 h2),if_neg (fun h9=>by have:=e3.1 h9;omega),if_neg h1,if_pos h2]
   rfl
  ·by_cases h3:c=214∨c=246
   ·rw[if_neg (fun h9=>h1 (e1.1 h9)),if_neg (fun h9=>h2 (e2.1 h9)),if_pos (e3.2 h3),if_neg h1,if_neg h2,if_pos h3]
    rfl
   ·rw[if_neg (fun h9=>h1 (e1.1 h9)),if_neg (fun h9=>h2 (e2.1 h9)),if_neg (fun h9=>h3 (e3.1 h9)),if_neg h1,if_neg h2,if_neg h3]
    rfl
theorem with_spa {lang:By} (h:lang=[115,112,97]) (c:Nat):(pk c 209 241 ⟨#[110,126]⟩).data.toList=withC lang c:=by
 unfold withC
 rw[if_neg (by rw[h];decide),if_neg (by rw[h];decide),if_pos h,pk_data]
 by_cases h1:c=209∨c=241
 ·rw[if_pos (by omega),if_pos h1]
 ·rw[if_neg (by omega),if_neg h1]
theorem with_none {lang:By} (h1:lang≠[103,101,114]) (h2:lang≠[115,119,101]) (h3:lang≠[115,112,97]) (c:Nat):withC lang c=[]:=by
 unfold withC
 rw[if_neg h1,if_neg h2,if_neg h3]
theorem withC_len (lang:By) (c:Nat):(withC lang c).length≤2:=by
 unfold withC
 repeat' split
 all_goals decide
def replStep (lang:By) (out:By) (q:By) (c:Nat):By:=out++replC lang q c
theorem repl_fold (lang s:By):repl lang s=BH (replStep lang) [] s:=rfl
theorem str_eq (s:ByteArray) (x:By):(s.toList == x)=decide (s.data.toList=x):=by
 rw[AA,Bool.eq_iff_iff]
 simp
end Sr
theorem pick_c (r L S:Int) (s:ByteArray) (w:A9) :
  Ac A3 240 #[.int .i32 r,.int .i32 L,.int .i32 S,.string s] w fun e w'=>e=.returned (.string (Sr.pk r L S s))∧w'=w:=by
 obtain⟨T,hT⟩:∃ T,Sr.pk r L S s=T:=⟨_,rfl⟩
 rw[hT]
 unfold Sr.pk at hT
 by_cases h1:r=L
 ·rw[if_pos (.inl h1)]at hT
  have HT:=J hT
  have e1:(r == L)=true:=beq_iff_eq.2 h1
  clear hT h1
  go_enter Tryz.func240,Tryz.ntmps240
  go_wp2
  go_ret
  exact⟨by rw[HT.out];rfl,rfl⟩
 ·have e1:(r == L)=false:=beq_eq_false_iff_ne.2 h1
  by_cases h2:r=S
  ·rw[if_pos (.inr h2)]at hT
   have HT:=J hT
   have e2:(r == S)=true:=beq_iff_eq.2 h2
   clear hT h1 h2
   go_enter Tryz.func240,Tryz.ntmps240
   go_wp2
   go_ret
   exact⟨by rw[HT.out];rfl,rfl⟩
  ·rw[if_neg (by rintro (h | h);exact h1 h;exact h2 h)]at hT
   have HT:=J hT
   have e2:(r == S)=false:=beq_eq_false_iff_ne.2 h2
   clear hT h1 h2
   go_enter Tryz.func240,Tryz.ntmps240
   go_wp2
   go_ret
   exact⟨by rw[← HT.out];rfl,rfl⟩
theorem WB32_c (B b:Nat) (l:List UInt8) (w:A9) (h:BIs B b l w) (hlen:l.length+1≤140737488355328) (hBw:B≤w.heap.size) :
  Ac A3 182 #[.pointer (A2 ⟨b,0,A4⟩),.int .u8 32] w fun e w'=>e=.returned .nilIface∧BIs B b (l++[32]) w'∧A6 B w w'∧Ms 5 (A2 b) w w' :=
 WriteByte_c B b l 32 w h hlen hBw
theorem replaced_c (lang s:ByteArray) (w:A9) (hs:s.size≤1000000) (hv:AL s.data.toList=true) :
  Ac A3 180 #[.string lang,.string s] w fun e w'=>e=.returned (.string ⟨(Sr.repl lang.data.toList s.data.toList).toArray⟩)∧A6 w.heap.size w w':=by
 obtain⟨L,hL⟩:∃ L,lang.data.toList=L:=⟨_,rfl⟩
 have eg:=Sr.str_eq lang [103,101,114]
 have es:=Sr.str_eq lang [115,119,101]
 have ep:=Sr.str_eq lang [115,112,97]
 rw[hL]at eg es ep ⊢
 rw[Sr.repl_fold]
 obtain⟨F,hF⟩:∃ F,BH (Sr.replStep L) [] s.data.toList=F:=⟨_,rfl⟩
 have HF:=J hF
 have HV:=J hv
 rw[hF]
 clear hF hv hL
 go_enter Tryz.func180,Tryz.ntmps180
 go_wp2
 go_loopw [7] (fun _ wr=>∃ (pos:Nat) (out:List UInt8),pos≤s.size∧BIs w.heap.size w.heap.size out wr∧wr.heap[w.heap.size+1]?=A2 (.stringIter s pos)∧A6 w.heap.size w wr∧Hid (BH (Sr.replStep L) out (s.data.toList.drop pos)=F)∧Hid (AL (s.data.toList.drop pos)=true)∧out.length≤3*pos) (fun _ wr=>s.size - wr.iterPos (w.heap.size+1))
 case atStart =>
  refine⟨0,[],Ae _,(Lib.IsBuilderF.of (Lib.fresh_isBuilder 176 5 w)).alloc _,?_,(Aa _ _).alloc (by simp) _,J (by rw[AM];exact HF.out),J (by rw[AM];exact HV.out),by simp⟩
  have:=K4 (w.alloc (.cells #[.pointer A4,.slice A4 0 0] 176)) s 0
  simpa using this
 case round =>
  obtain⟨pos,out,hps,hI,hit,hbw,hFo,hVp,hol⟩:=hrel
  have hsz:w.heap.size+1<wr.heap.size:=(AN.1 hit).1
  by_cases hp:pos<s.size
  ·have hnx:∀ ty,(Ht (.pointer (A2 ⟨w.heap.size+1,0,A4⟩)) true ty).run A3 wr=_:=fun ty=>Ie wr (w.heap.size+1) s pos ty hit hp
   have hne:s.data.toList.drop pos≠[]:=G7 (by rw[← Ak];exact hp)
   obtain⟨hz,hd,hw,hv2,_⟩:=IV hne hVp.out
   have hdec:Utf8.decode s pos=Bv (s.data.toList.drop pos):=by rw[← Lib.decodeL_drop,hd]
   have hle:=Tx.wid_le hne
   have hwp:=JY (s.data.toList.drop pos)
   rw[AG,← Ak]at hle
   have hen:=Tx.enc_head hne hz
   have hru:=IE (s.data.toList.drop pos)
   have hst:=I4 (Sr.replStep L) out hne
   rw[hFo.out,BT]at hst
   rw[BT]at hv2
   rw[← hw]at hen
   rw[hdec,← hw]at hnx
   generalize hK:Tx.wid (s.data.toList.drop pos)=K at hle hwp hst hv2 hen hnx
   generalize hR:(Bv (s.data.toList.drop pos)).1=R at hru hst hen hnx
   obtain⟨q,hq⟩:∃ q,(s.data.toList.drop pos).take K=q:=⟨_,rfl⟩
   have hql:q.length≤K:=by rw[← hq];exact JJ _ _
   rw[hq]at hst hen
   unfold Sr.replStep at hst
   rw[Sr.replC_with]at hst
   have hI2:=hI.iterAt hit (pos+K)
   have hit2:=K5 wr (w.heap.size+1) s pos (pos+K) hit
   have hbw2:=Jy hbw (k:=w.heap.size+1) (by omega) s (pos+K)
   have hsz2:w.heap.size≤(wr.iterAt (w.heap.size+1) s (pos+K)).heap.size:=by rw[Ls];omega
   obtain⟨W,hWd⟩:∃ W,wr.iterAt (w.heap.size+1) s (pos+K)=W:=⟨_,rfl⟩
   rw[hWd]at hnx hit2 hbw2 hI2 hsz2
   have HIT:=J hit
   have HI:=J hit2
   have HEN:=J hen
   have HV2:Hid (AL (s.data.toList.drop (pos+K))=true):=J hv2
   clear hne hz hd hw hv2 hdec hit hI hbw hFo hVp hWd hit2 hq hen hK hR
   by_cases k1:L=[103,101,114]
   ·have HLG:=J k1
    rw[decide_eq_true k1]at eg
    clear k1 es ep
    obtain⟨p1,hp1⟩:∃ p,Sr.pk (R:Int) 196 228 ⟨#[97,101]⟩=p:=⟨_,rfl⟩
    obtain⟨p2,hp2⟩:∃ p,Sr.pk (R:Int) 214 246 ⟨#[111,101]⟩=p:=⟨_,rfl⟩
    obtain⟨p3,hp3⟩:∃ p,Sr.pk (R:Int) 220 252 ⟨#[117,101]⟩=p:=⟨_,rfl⟩
    have z1:p1.size≤2:=by rw[← hp1];exact Sr.pk_size (by decide)
    have z2:p2.size≤2:=by rw[← hp2];exact Sr.pk_size (by decide)
    have z3:p3.size≤2:=by rw[← hp3];exact Sr.pk_size (by decide)
    have hWd:=Sr.with_ger HLG.out R
    rw[hp1,hp2,hp3]at hWd
    obtain⟨W3,hW3⟩:∃ W,p1++p2++p3=W:=⟨_,rfl⟩
    rw[hW3]at hWd
    have hW3s:W3.size≤6:=by rw[← hW3,EA,EA];omega
    have HW:=J hWd
    have HWL:Hid ((Sr.withC L R).length≤2):=J (Sr.withC_len L R)
    clear hWd
    by_cases hc:123≤R∧R≤126
    ·rw[if_pos hc]at hst
     obtain⟨g1,g2⟩:=hc
     have HS:Hid (BH (Sr.replStep L) (out++[32]) (s.data.toList.drop (pos+K))=F):=J hst.symm
     clear hst
     go_wp2_with (first | (go_at_call 240;((with_reducible refine (pick_c _ _ _ _ _).mono ?_);rintro e w1 ⟨rfl,rfl⟩)) | (go_at_call 182;refine (WB32_c w.heap.size w.heap.size out _ hI2 (by omega) hsz2).mono ?_;rintro e w3 ⟨rfl,hI3,hb3,k3⟩))
     go_roundw
     case rel=>exact⟨pos+K,out++[32],by omega,hI3,k3.iter HI.out (by omega),hbw2.trans hb3,HS,HV2,by simp;omega⟩
     case measure=>simp only[Bu,k3.iter HI.out (by omega),HIT.out];omega
    ·rw[if_neg hc]at hst
     by_cases hwe:Sr.withC L R=[]
     ·rw[if_pos hwe]at hst
      have hW0:(W3.toList == [])=true:=by rw[AA,HW.out,hwe];rfl
      rcases (by omega:R<123∨(123≤R∧126<R)) with g1 | ⟨g1,g2⟩
      ·clear hc hwe
       have HS:Hid (BH (Sr.replStep L) (out++q) (s.data.toList.drop (pos+K))=F):=J hst.symm
       clear hst
       go_wp2_with (first | (go_at_call 240;((with_reducible refine (pick_c _ _ _ _ _).mono ?_);rintro e w1 ⟨rfl,rfl⟩)) | (go_at_call 162;refine (WriteRuneI_c w.heap.size w.heap.size out _ (by omega) (by omega) _ hI2 (by omega) hsz2).mono ?_;rintro e w3 ⟨⟨n,rfl⟩,hI3,hb3,k3⟩))
       rw[HEN.out]at hI3
       go_roundw
       case rel=>exact⟨pos+K,out++q,by omega,hI3,k3.iter HI.out (by omega),hbw2.trans hb3,HS,HV2,by simp;omega⟩
       case measure=>simp only[Bu,k3.iter HI.out (by omega),HIT.out];omega
      ·clear hc hwe
       have HS:Hid (BH (Sr.replStep L) (out++q) (s.data.toList.drop (pos+K))=F):=J hst.symm
       clear hst
       go_wp2_with (first | (go_at_call 240;((with_reducible refine (pick_c _ _ _ _ _).mono ?_);rintro e w1 ⟨rfl,rfl⟩)) | (go_at_call 162;refine (WriteRuneI_c w.heap.size w.heap.size out _ (by omega) (by omega) _ hI2 (by omega) hsz2).mono ?_;rintro e w3 ⟨⟨n,rfl⟩,hI3,hb3,k3⟩))
       rw[HEN.out]at hI3
       go_roundw
       case rel=>exact⟨pos+K,out++q,by omega,hI3,k3.iter HI.out (by omega),hbw2.trans hb3,HS,HV2,by simp;omega⟩
       case measure=>simp only[Bu,k3.iter HI.out (by omega),HIT.out];omega
     ·rw[if_neg hwe]at hst
      have hW0:(W3.toList == [])=false:=by rw[AA,HW.out];simpa using hwe
      rcases (by omega:R<123∨(123≤R∧126<R)) with g1 | ⟨g1,g2⟩
      ·clear hc hwe
       have HS:Hid (BH (Sr.replStep L) (out++Sr.withC L R) (s.data.toList.drop (pos+K))=F):=J hst.symm
       clear hst
       go_wp2_with (first | (go_at_call 240;((with_reducible refine (pick_c _ _ _ _ _).mono ?_);rintro e w1 ⟨rfl,rfl⟩)) | (go_at_call 163;refine (WriteString_c w.heap.size w.heap.size out _ _ hI2 (by omega) hsz2).mono ?_;rintro e w3 ⟨rfl,hI3,hb3,k3⟩))
       rw[HW.out]at hI3
       go_roundw
       case rel=>exact⟨pos+K,out++Sr.withC L R,by omega,hI3,k3.iter HI.out (by omega),hbw2.trans hb3,HS,HV2,by have:=HWL.out;simp;omega⟩
       case measure=>simp only[Bu,k3.iter HI.out (by omega),HIT.out];omega
      ·clear hc hwe
       have HS:Hid (BH (Sr.replStep L) (out++Sr.withC L R) (s.data.toList.drop (pos+K))=F):=J hst.symm
       clear hst
       go_wp2_with (first | (go_at_call 240;((with_reducible refine (pick_c _ _ _ _ _).mono ?_);rintro e w1 ⟨rfl,rfl⟩)) | (go_at_call 163;refine (WriteString_c w.heap.size w.heap.size out _ _ hI2 (by omega) hsz2).mono ?_;rintro e w3 ⟨rfl,hI3,hb3,k3⟩))
       rw[HW.out]at hI3
       go_roundw
       case rel=>exact⟨pos+K,out++Sr.withC L R,by omega,hI3,k3.iter HI.out (by omega),hbw2.trans hb3,HS,HV2,by have:=HWL.out;simp;omega⟩
       case measure=>simp only[Bu,k3.iter HI.out (by omega),HIT.out];omega
   ·rw[decide_eq_false k1]at eg
    by_cases k2:L=[115,119,101]
    ·have HLG:=J k2
     rw[decide_eq_true k2]at es
     clear k1 k2 ep
     obtain⟨p1,hp1⟩:∃ p,Sr.pk (R:Int) 197 229 ⟨#[123]⟩=p:=⟨_,rfl⟩
     obtain⟨p2,hp2⟩:∃ p,Sr.pk (R:Int) 196 228 ⟨#[124]⟩=p:=⟨_,rfl⟩
     obtain⟨p3,hp3⟩:∃ p,Sr.pk (R:Int) 214 246 ⟨#[125]⟩=p:=⟨_,rfl⟩
     have z1:p1.size≤2:=by rw[← hp1];exact Sr.pk_size (by decide)
     have z2:p2.size≤2:=by rw[← hp2];exact Sr.pk_size (by decide)
     have z3:p3.size≤2:=by rw[← hp3];exact Sr.pk_size (by decide)
     have hWd:=Sr.with_swe HLG.out R
     rw[hp1,hp2,hp3]at hWd
     obtain⟨W3,hW3⟩:∃ W,p1++p2++p3=W:=⟨_,rfl⟩
     rw[hW3]at hWd
     have hW3s:W3.size≤6:=by rw[← hW3,EA,EA];omega
     have HW:=J hWd
     have HWL:Hid ((Sr.withC L R).length≤2):=J (Sr.withC_len L R)
     clear hWd
     by_cases hc:123≤R∧R≤126
     ·rw[if_pos hc]at hst
      obtain⟨g1,g2⟩:=hc
      have HS:Hid (BH (Sr.replStep L) (out++[32]) (s.data.toList.drop (pos+K))=F):=J hst.symm
      clear hst
      go_wp2_with (first | (go_at_call 240;((with_reducible refine (pick_c _ _ _ _ _).mono ?_);rintro e w1 ⟨rfl,rfl⟩)) | (go_at_call 182;refine (WB32_c w.heap.size w.heap.size out _ hI2 (by omega) hsz2).mono ?_;rintro e w3 ⟨rfl,hI3,hb3,k3⟩))
      go_roundw
      case rel=>exact⟨pos+K,out++[32],by omega,hI3,k3.iter HI.out (by omega),hbw2.trans hb3,HS,HV2,by simp;omega⟩
      case measure=>simp only[Bu,k3.iter HI.out (by omega),HIT.out];omega
     ·rw[if_neg hc]at hst
      by_cases hwe:Sr.withC L R=[]
      ·rw[if_pos hwe]at hst
       have hW0:(W3.toList == [])=true:=by rw[AA,HW.out,hwe];rfl
       rcases (by omega:R<123∨(123≤R∧126<R)) with g1 | ⟨g1,g2⟩
       ·clear hc hwe
        have HS:Hid (BH (Sr.replStep L) (out++q) (s.data.toList.drop (pos+K))=F):=J hst.symm
        clear hst
        go_wp2_with (first | (go_at_call 240;((with_reducible refine (pick_c _ _ _ _ _).mono ?_);rintro e w1 ⟨rfl,rfl⟩)) | (go_at_call 162;refine (WriteRuneI_c w.heap.size w.heap.size out _ (by omega) (by omega) _ hI2 (by omega) hsz2).mono ?_;rintro e w3 ⟨⟨n,rfl⟩,hI3,hb3,k3⟩))
        rw[HEN.out]at hI3
        go_roundw
        case rel=>exact⟨pos+K,out++q,by omega,hI3,k3.iter HI.out (by omega),hbw2.trans hb3,HS,HV2,by simp;omega⟩
        case measure=>simp only[Bu,k3.iter HI.out (by omega),HIT.out];omega
       ·clear hc hwe
        have HS:Hid (BH (Sr.replStep L) (out++q) (s.data.toList.drop (pos+K))=F):=J hst.symm
        clear hst
        go_wp2_with (first | (go_at_call 240;((with_reducible refine (pick_c _ _ _ _ _).mono ?_);rintro e w1 ⟨rfl,rfl⟩)) | (go_at_call 162;refine (WriteRuneI_c w.heap.size w.heap.size out _ (by omega) (by omega) _ hI2 (by omega) hsz2).mono ?_;rintro e w3 ⟨⟨n,rfl⟩,hI3,hb3,k3⟩))
        rw[HEN.out]at hI3
        go_roundw
        case rel=>exact⟨pos+K,out++q,by omega,hI3,k3.iter HI.out (by omega),hbw2.trans hb3,HS,HV2,by simp;omega⟩
        case measure=>simp only[Bu,k3.iter HI.out (by omega),HIT.out];omega
      ·rw[if_neg hwe]at hst
       have hW0:(W3.toList == [])=false:=by rw[AA,HW.out];simpa using hwe
       rcases (by omega:R<123∨(123≤R∧126<R)) with g1 | ⟨g1,g2⟩
       ·clear hc hwe
        have HS:Hid (BH (Sr.replStep L) (out++Sr.withC L R) (s.data.toList.drop (pos+K))=F):=J hst.symm
        clear hst
        go_wp2_with (first | (go_at_call 240;((with_reducible refine (pick_c _ _ _ _ _).mono ?_);rintro e w1 ⟨rfl,rfl⟩)) | (go_at_call 163;refine (WriteString_c w.heap.size w.heap.size out _ _ hI2 (by omega) hsz2).mono ?_;rintro e w3 ⟨rfl,hI3,hb3,k3⟩))
        rw[HW.out]at hI3
        go_roundw
        case rel=>exact⟨pos+K,out++Sr.withC L R,by omega,hI3,k3.iter HI.out (by omega),hbw2.trans hb3,HS,HV2,by have:=HWL.out;simp;omega⟩
        case measure=>simp only[Bu,k3.iter HI.out (by omega),HIT.out];omega
       ·clear hc hwe
        have HS:Hid (BH (Sr.replStep L) (out++Sr.withC L R) (s.data.toList.drop (pos+K))=F):=J hst.symm
        clear hst
        go_wp2_with (first | (go_at_call 240;((with_reducible refine (pick_c _ _ _ _ _).mono ?_);rintro e w1 ⟨rfl,rfl⟩)) | (go_at_call 163;refine (WriteString_c w.heap.size w.heap.size out _ _ hI2 (by omega) hsz2).mono ?_;rintro e w3 ⟨rfl,hI3,hb3,k3⟩))
        rw[HW.out]at hI3
        go_roundw
        case rel=>exact⟨pos+K,out++Sr.withC L R,by omega,hI3,k3.iter HI.out (by omega),hbw2.trans hb3,HS,HV2,by have:=HWL.out;simp;omega⟩
        case measure=>simp only[Bu,k3.iter HI.out (by omega),HIT.out];omega
    ·rw[decide_eq_false k2]at es
     by_cases k3:L=[115,112,97]
     ·have HLG:=J k3
      rw[decide_eq_true k3]at ep
      clear k1 k2 k3
      obtain⟨W3,hW3⟩:∃ W,Sr.pk (R:Int) 209 241 ⟨#[110,126]⟩=W:=⟨_,rfl⟩
      have hWd:=Sr.with_spa HLG.out R
      rw[hW3]at hWd
      have hW3s:W3.size≤6:=by have:W3.size≤2:=(by rw[← hW3];exact Sr.pk_size (by decide));omega
      have HW:=J hWd
      have HWL:Hid ((Sr.withC L R).length≤2):=J (Sr.withC_len L R)
      clear hWd
      by_cases hc:123≤R∧R≤126
      ·rw[if_pos hc]at hst
       obtain⟨g1,g2⟩:=hc
       have HS:Hid (BH (Sr.replStep L) (out++[32]) (s.data.toList.drop (pos+K))=F):=J hst.symm
       clear hst
       go_wp2_with (first | (go_at_call 240;((with_reducible refine (pick_c _ _ _ _ _).mono ?_);rintro e w1 ⟨rfl,rfl⟩)) | (go_at_call 182;refine (WB32_c w.heap.size w.heap.size out _ hI2 (by omega) hsz2).mono ?_;rintro e w3 ⟨rfl,hI3,hb3,k3⟩))
       go_roundw
       case rel=>exact⟨pos+K,out++[32],by omega,hI3,k3.iter HI.out (by omega),hbw2.trans hb3,HS,HV2,by simp;omega⟩
       case measure=>simp only[Bu,k3.iter HI.out (by omega),HIT.out];omega
      ·rw[if_neg hc]at hst
       by_cases hwe:Sr.withC L R=[]
       ·rw[if_pos hwe]at hst
        have hW0:(W3.toList == [])=true:=by rw[AA,HW.out,hwe];rfl
        rcases (by omega:R<123∨(123≤R∧126<R)) with g1 | ⟨g1,g2⟩
        ·clear hc hwe
         have HS:Hid (BH (Sr.replStep L) (out++q) (s.data.toList.drop (pos+K))=F):=J hst.symm
         clear hst
         go_wp2_with (first | (go_at_call 240;((with_reducible refine (pick_c _ _ _ _ _).mono ?_);rintro e w1 ⟨rfl,rfl⟩)) | (go_at_call 162;refine (WriteRuneI_c w.heap.size w.heap.size out _ (by omega) (by omega) _ hI2 (by omega) hsz2).mono ?_;rintro e w3 ⟨⟨n,rfl⟩,hI3,hb3,k3⟩))
         rw[HEN.out]at hI3
         go_roundw
         case rel=>exact⟨pos+K,out++q,by omega,hI3,k3.iter HI.out (by omega),hbw2.trans hb3,HS,HV2,by simp;omega⟩
         case measure=>simp only[Bu,k3.iter HI.out (by omega),HIT.out];omega
        ·clear hc hwe
         have HS:Hid (BH (Sr.replStep L) (out++q) (s.data.toList.drop (pos+K))=F):=J hst.symm
         clear hst
         go_wp2_with (first | (go_at_call 240;((with_reducible refine (pick_c _ _ _ _ _).mono ?_);rintro e w1 ⟨rfl,rfl⟩)) | (go_at_call 162;refine (WriteRuneI_c w.heap.size w.heap.size out _ (by omega) (by omega) _ hI2 (by omega) hsz2).mono ?_;rintro e w3 ⟨⟨n,rfl⟩,hI3,hb3,k3⟩))
         rw[HEN.out]at hI3
         go_roundw
         case rel=>exact⟨pos+K,out++q,by omega,hI3,k3.iter HI.out (by omega),hbw2.trans hb3,HS,HV2,by simp;omega⟩
         case measure=>simp only[Bu,k3.iter HI.out (by omega),HIT.out];omega
       ·rw[if_neg hwe]at hst
        have hW0:(W3.toList == [])=false:=by rw[AA,HW.out];simpa using hwe
        rcases (by omega:R<123∨(123≤R∧126<R)) with g1 | ⟨g1,g2⟩
        ·clear hc hwe
         have HS:Hid (BH (Sr.replStep L) (out++Sr.withC L R) (s.data.toList.drop (pos+K))=F):=J hst.symm
         clear hst
         go_wp2_with (first | (go_at_call 240;((with_reducible refine (pick_c _ _ _ _ _).mono ?_);rintro e w1 ⟨rfl,rfl⟩)) | (go_at_call 163;refine (WriteString_c w.heap.size w.heap.size out _ _ hI2 (by omega) hsz2).mono ?_;rintro e w3 ⟨rfl,hI3,hb3,k3⟩))
         rw[HW.out]at hI3
         go_roundw
         case rel=>exact⟨pos+K,out++Sr.withC L R,by omega,hI3,k3.iter HI.out (by omega),hbw2.trans hb3,HS,HV2,by have:=HWL.out;simp;omega⟩
         case measure=>simp only[Bu,k3.iter HI.out (by omega),HIT.out];omega
        ·clear hc hwe
         have HS:Hid (BH (Sr.replStep L) (out++Sr.withC L R) (s.data.toList.drop (pos+K))=F):=J hst.symm
         clear hst
         go_wp2_with (first | (go_at_call 240;((with_reducible refine (pick_c _ _ _ _ _).mono ?_);rintro e w1 ⟨rfl,rfl⟩)) | (go_at_call 163;refine (WriteString_c w.heap.size w.heap.size out _ _ hI2 (by omega) hsz2).mono ?_;rintro e w3 ⟨rfl,hI3,hb3,k3⟩))
         rw[HW.out]at hI3
         go_roundw
         case rel=>exact⟨pos+K,out++Sr.withC L R,by omega,hI3,k3.iter HI.out (by omega),hbw2.trans hb3,HS,HV2,by have:=HWL.out;simp;omega⟩
         case measure=>simp only[Bu,k3.iter HI.out (by omega),HIT.out];omega
     ·rw[decide_eq_false k3]at ep
      have HN1:=J k1
      have HN2:=J k2
      have HN3:=J k3
      clear k1 k2 k3
      by_cases hc:123≤R∧R≤126
      ·rw[if_pos hc]at hst
       obtain⟨g1,g2⟩:=hc
       have HS:Hid (BH (Sr.replStep L) (out++[32]) (s.data.toList.drop (pos+K))=F):=J hst.symm
       clear hst
       go_wp2_with (go_at_call 182;refine (WB32_c w.heap.size w.heap.size out _ hI2 (by omega) hsz2).mono ?_;rintro e w3 ⟨rfl,hI3,hb3,k3⟩)
       go_roundw
       case rel=>exact⟨pos+K,out++[32],by omega,hI3,k3.iter HI.out (by omega),hbw2.trans hb3,HS,HV2,by simp;omega⟩
       case measure=>simp only[Bu,k3.iter HI.out (by omega),HIT.out];omega
      ·rw[if_neg hc]at hst
       rw[if_pos (Sr.with_none HN1.out HN2.out HN3.out R)]at hst
       rcases (by omega:R<123∨(123≤R∧126<R)) with g1 | ⟨g1,g2⟩
       ·clear hc
        have HS:Hid (BH (Sr.replStep L) (out++q) (s.data.toList.drop (pos+K))=F):=J hst.symm
        clear hst
        go_wp2_with (go_at_call 162;refine (WriteRuneI_c w.heap.size w.heap.size out _ (by omega) (by omega) _ hI2 (by omega) hsz2).mono ?_;rintro e w3 ⟨⟨n,rfl⟩,hI3,hb3,k3⟩)
        rw[HEN.out]at hI3
        go_roundw
        case rel=>exact⟨pos+K,out++q,by omega,hI3,k3.iter HI.out (by omega),hbw2.trans hb3,HS,HV2,by simp;omega⟩
        case measure=>simp only[Bu,k3.iter HI.out (by omega),HIT.out];omega
       ·clear hc
        have HS:Hid (BH (Sr.replStep L) (out++q) (s.data.toList.drop (pos+K))=F):=J hst.symm
        clear hst
        go_wp2_with (go_at_call 162;refine (WriteRuneI_c w.heap.size w.heap.size out _ (by omega) (by omega) _ hI2 (by omega) hsz2).mono ?_;rintro e w3 ⟨⟨n,rfl⟩,hI3,hb3,k3⟩)
        rw[HEN.out]at hI3
        go_roundw
        case rel=>exact⟨pos+K,out++q,by omega,hI3,k3.iter HI.out (by omega),hbw2.trans hb3,HS,HV2,by simp;omega⟩
        case measure=>simp only[Bu,k3.iter HI.out (by omega),HIT.out];omega
  ·have hnx:∀ ty,(Ht (.pointer (A2 ⟨w.heap.size+1,0,A4⟩)) true ty).run A3 wr=_:=fun ty=>If wr (w.heap.size+1) s pos ty hit hp
   have hfin:out=F:=by
    rw[← hFo.out,AB (by rw[← Ak];omega),Ge]
   have HFIN:=J hfin;clear hfin eg es ep
   have hwsz:w.heap.size≤wr.heap.size:=hbw.size
   go_wp2_with (go_at_call 164;refine (Tryz.Builder_String_any_f w.heap.size w.heap.size out _ hI hwsz).mono ?_;rintro e w3 ⟨rfl,hI3,hb3⟩)
   go_ret
   exact⟨Tx.rets (by rw[HFIN.out]),hbw.trans hb3⟩
section
open Go.Shelf
def renL:Go.Shelf.Ren:=⟨fun | 170=>181 | n=>renB.f n,renB.t,renB.g⟩
theorem layB170:Go.Proofs.Lays.n170 A3 renL:=by constructor <;> first | kernel_rfl | (intro w;kernel_rfl)
theorem BLen_c (B b:Nat) (l:List UInt8) (w:A9) (h:BIs B b l w) :
  Ac A3 181 #[.pointer (A2 ⟨b,0,A4⟩)] w fun e w'=>e=.returned (.int .i64 l.length)∧w'=w :=
 Calls.mono (Any.Builder_Len_f layB170 B b (Lib.byteCells l) w h) fun e w' ⟨he,hw⟩=>⟨by rw[he,bc_len],hw⟩
namespace Sr
theorem letter_true {c:Nat} (h:(97≤c∧c≤122)∨(48≤c∧c≤57)∨(123≤c∧c≤126)∨256≤c):letter c=true:=by
 unfold letter
 simp only[Bool.or_eq_true,Bool.and_eq_true,decide_eq_true_eq]
 omega
theorem letter_false {c:Nat} (h:¬ ((97≤c∧c≤122)∨(48≤c∧c≤57)∨(123≤c∧c≤126)∨256≤c)):letter c=false:=by
 rw[Bool.eq_false_iff]
 intro h9
 unfold letter at h9
 simp only[Bool.or_eq_true,Bool.and_eq_true,decide_eq_true_eq]at h9
 omega
theorem key_stop {out q:By}{gap:Bool}{c:Nat} (h:letter c=false):keyStep (out,gap) q c=(out,true):=by
 unfold keyStep
 rw[h,if_neg (by decide)]
theorem key_go {out q:By}{c:Nat} (h:letter c=true):keyStep (out,false) q c=(out++q,false):=by
 unfold keyStep
 rw[if_pos h]
 simp
theorem key_first {q:By}{c:Nat} (h:letter c=true):keyStep ([],true) q c=(q,false):=by
 unfold keyStep
 rw[if_pos h]
 simp
theorem key_gap {out q:By}{c:Nat} (h:letter c=true) (ho:out≠[]):keyStep (out,true) q c=(out++[32]++q,false):=by
 unfold keyStep
 rw[if_pos h]
 simp[ho]
end Sr
theorem Key_c (lang s:ByteArray) (w:A9) (hG:G w) (hs:s.size≤1000000) (hv:AL s.data.toList=true) :
  Ac A3 104 #[.string lang,.string s] w fun e w'=>e=.returned (.string ⟨(Sr.key lang.data.toList s.data.toList).toArray⟩)∧A6 w.heap.size w w':=by
 obtain⟨F,hF⟩:∃ F,Sr.key lang.data.toList s.data.toList=F:=⟨_,rfl⟩
 rw[hF]
 unfold Sr.key at hF
 obtain⟨W,hW⟩:∃ W,w.alloc (.cells #[.pointer A4,.slice A4 0 0] 176)=W:=⟨_,rfl⟩
 have hB:A6 w.heap.size w W:=by rw[← hW];exact Aa _ _
 have hWs:W.heap.size=w.heap.size+1:=by rw[← hW];simp
 have hI0:BIs w.heap.size w.heap.size [] W:=by rw[← hW];exact Lib.IsBuilderF.of (Lib.fresh_isBuilder 176 5 w)
 have hrv:=Sr.repl_valid (lang:=lang.data.toList) hv
 have hrl:=Sr.repl_len (lang:=lang.data.toList) hv
 rw[← Ak]at hrl
 have RC:=replaced_c lang s W hs hv
 obtain⟨T,hT⟩:∃ T,Sr.repl lang.data.toList s.data.toList=T:=⟨_,rfl⟩
 rw[hT]at RC hrv hrl hF
 have hfv:=Me hrv
 have hfl:=Tx.foldS_len hrv
 have FC:∀ w',A6 W.heap.size W w'→Ac A3 95 #[.string ⟨T.toArray⟩] w' fun e w''=>e=.returned (.string ⟨(Do T).toArray⟩)∧A6 w'.heap.size w' w'':=fun w' hb=>text_Fold_c ⟨T.toArray⟩ w' ((hG.below hB).below hb) (by rw[Fp];omega) hrv
 obtain⟨S,hS⟩:∃ S:ByteArray,(⟨(Do T).toArray⟩:ByteArray)=S:=⟨_,rfl⟩
 have hSd:S.data.toList=Do T:=by rw[← hS]
 rw[hS]at FC
 rw[← hSd]at hF hfv hfl
 rw[← Ak]at hfl
 have HRC:=J RC
 have HFC:=J FC
 have HF:=J hF
 have HV:=J hfv
 have hsz9:S.size≤6000000:=by omega
 clear RC FC hF hfv hrv hrl hfl hT hS hSd hv hG
 go_enter Tryz.func104,Tryz.ntmps104
 go_wp2_with (first
  |(go_at_call 180;((with_reducible refine HRC.out.mono ?_);rintro e w1 ⟨rfl,hb1⟩))
  |(go_at_call 95;((with_reducible refine (HFC.out _ hb1).mono ?_);rintro e w2 ⟨rfl,hb2⟩;have hb12:=Tx.step hb1 hb2;have hs2:=hb12.size)))
 have hI2:=hI0.below hb12
 clear hW hI0
 go_loopw [6] (fun g wr=>∃ (pos:Nat) (out:List UInt8) (gap:Bool),g=.bool gap∧pos≤S.size∧BIs w.heap.size w.heap.size out wr∧wr.heap[w2.heap.size]?=A2 (.stringIter S pos)∧A6 w.heap.size w wr∧Hid ((BH Ed (out,gap) (S.data.toList.drop pos)).1=F)∧Hid (AL (S.data.toList.drop pos)=true)∧out.length≤2*pos) (fun _ wr=>S.size - wr.iterPos w2.heap.size)
 case atStart =>
  refine⟨0,[],false,rfl,Ae _,hI2.alloc _,?_,(Tx.step hB hb12).alloc (by omega) _,J (by rw[AM];exact HF.out),J (by rw[AM];exact HV.out),by simp⟩
  have:=K4 w2 S 0
  simpa using this
 case round =>
  obtain⟨pos,out,gap,rfl,hps,hI,hit,hbw,hFo,hVp,hol⟩:=hrel
  have hsz:w2.heap.size<wr.heap.size:=(AN.1 hit).1
  by_cases hp:pos<S.size
  ·have hnx:∀ ty,(Ht (.pointer (A2 ⟨w2.heap.size,0,A4⟩)) true ty).run A3 wr=_:=fun ty=>Ie wr w2.heap.size S pos ty hit hp
   have hne:S.data.toList.drop pos≠[]:=G7 (by rw[← Ak];exact hp)
   obtain⟨hz,hd,hw,hv2,_⟩:=IV hne hVp.out
   have hdec:Utf8.decode S pos=Bv (S.data.toList.drop pos):=by rw[← Lib.decodeL_drop,hd]
   have hle:=Tx.wid_le hne
   have hwp:=JY (S.data.toList.drop pos)
   rw[AG,← Ak]at hle
   have hen:=Tx.enc_head hne hz
   have hru:=IE (S.data.toList.drop pos)
   have hst:=I4 Ed (out,gap) hne
   have hfo:=hFo.out
   rw[hst,BT]at hfo
   clear hst
   rw[BT]at hv2
   rw[← hw]at hen
   rw[hdec,← hw]at hnx
   generalize hK:Tx.wid (S.data.toList.drop pos)=K at hle hwp hfo hv2 hen hnx
   generalize hR:(Bv (S.data.toList.drop pos)).1=R at hru hfo hen hnx
   obtain⟨q,hq⟩:∃ q,(S.data.toList.drop pos).take K=q:=⟨_,rfl⟩
   have hql:q.length≤K:=by rw[← hq];exact JJ _ _
   rw[hq]at hfo hen
   have hI2:=hI.iterAt hit (pos+K)
   have hit2:=K5 wr w2.heap.size S pos (pos+K) hit
   have hbw2:=Jy hbw (k:=w2.heap.size) (by omega) S (pos+K)
   have hsz2:w.heap.size≤(wr.iterAt w2.heap.size S (pos+K)).heap.size:=by rw[Ls];omega
   obtain⟨V,hVd⟩:∃ V,wr.iterAt w2.heap.size S (pos+K)=V:=⟨_,rfl⟩
   rw[hVd]at hnx hit2 hbw2 hI2 hsz2
   have HIT:=J hit
   have HI:=J hit2
   have HEN:=J hen
   have HV2:Hid (AL (S.data.toList.drop (pos+K))=true):=J hv2
   clear hne hz hd hw hv2 hdec hit hI hbw hFo hVp hVd hit2 hq hen hK hR
   rcases (by omega:(R<48)∨(48≤R∧R≤57)∨(57<R∧R<97)∨(97≤R∧R≤122)∨(123≤R∧R≤126)∨(126<R∧R<256)∨(256≤R)) with hc | hc | hc | hc | hc | hc | hc
   ·have a0:R<48:=(by omega)
    have a1:R<97:=(by omega)
    have a2:R<123:=(by omega)
    have a3:R<256:=(by omega)
    rw[Sr.key_stop (Sr.letter_false (by omega))]at hfo
    have HS:Hid ((BH Ed (out,true) (S.data.toList.drop (pos+K))).1=F):=J hfo
    clear hfo hc
    go_wp2
    go_roundw
    case rel=>exact⟨pos+K,out,true,rfl,by omega,hI2,HI.out,hbw2,HS,HV2,by omega⟩
    case measure=>simp only[Bu,HI.out,HIT.out];omega
   ·have a1:R<97:=(by omega)
    have a2:48≤R:=(by omega)
    have a3:R≤57:=(by omega)
    have hl:=Sr.letter_true (c:=R) (by omega)
    clear hc
    cases gap with
    | false =>
     rw[Sr.key_go hl]at hfo
     have HS:Hid ((BH Ed (out++q,false) (S.data.toList.drop (pos+K))).1=F):=J hfo
     clear hfo hl
     go_wp2_with (go_at_call 162;refine (WriteRuneI_c w.heap.size w.heap.size (out) _ (by omega) (by omega) _ hI2 (by omega) hsz2).mono ?_;rintro e w5 ⟨⟨n,rfl⟩,hI5,hb5,k5⟩)
     rw[HEN.out]at hI5
     go_roundw
     case rel=>exact⟨pos+K,out++q,false,rfl,by omega,hI5,k5.iter HI.out (by omega),hbw2.trans hb5,HS,HV2,by simp;omega⟩
     case measure=>simp only[Bu,k5.iter HI.out (by omega),HIT.out];omega
    | true =>
     by_cases ho:out=[]
     ·subst ho
      rw[Sr.key_first hl]at hfo
      have HS:Hid ((BH Ed ([]++q,false) (S.data.toList.drop (pos+K))).1=F):=J hfo
      clear hfo hl
      go_wp2_with (first | (go_at_call 181;refine (BLen_c w.heap.size w.heap.size [] _ hI2).mono ?_;rintro e w3 ⟨rfl,rfl⟩) | (go_at_call 162;refine (WriteRuneI_c w.heap.size w.heap.size ([]) _ (by omega) (by omega) _ hI2 (by simp) hsz2).mono ?_;rintro e w5 ⟨⟨n,rfl⟩,hI5,hb5,k5⟩))
      rw[HEN.out]at hI5
      go_roundw
      case rel=>exact⟨pos+K,[]++q,false,rfl,by omega,hI5,k5.iter HI.out (by omega),hbw2.trans hb5,HS,HV2,by simp;omega⟩
      case measure=>simp only[Bu,k5.iter HI.out (by omega),HIT.out];omega
     ·rw[Sr.key_gap hl ho]at hfo
      have HS:Hid ((BH Ed (out++[32]++q,false) (S.data.toList.drop (pos+K))).1=F):=J hfo
      have hlo:0<out.length:=BV.2 ho
      clear hfo hl ho
      go_wp2_with (first | (go_at_call 181;refine (BLen_c w.heap.size w.heap.size out _ hI2).mono ?_;rintro e w3 ⟨rfl,rfl⟩) | (go_at_call 182;refine (WB32_c w.heap.size w.heap.size out _ hI2 (by omega) hsz2).mono ?_;rintro e w4 ⟨rfl,hI4,hb4,k4⟩;have hsz4:=hb4.size) | (go_at_call 162;refine (WriteRuneI_c w.heap.size w.heap.size (out++[32]) _ (by omega) (by omega) _ hI4 (by simp;omega) (AK hsz2 hsz4)).mono ?_;rintro e w5 ⟨⟨n,rfl⟩,hI5,hb5,k5⟩))
      rw[HEN.out]at hI5
      go_roundw
      case rel=>exact⟨pos+K,out++[32]++q,false,rfl,by omega,hI5,k5.iter (k4.iter HI.out (by omega)) (by omega),(hbw2.trans hb4).trans hb5,HS,HV2,by simp;omega⟩
      case measure=>simp only[Bu,k5.iter (k4.iter HI.out (by omega)) (by omega),HIT.out];omega
   ·have a1:R<97:=(by omega)
    have a2:48≤R:=(by omega)
    have a3:57<R:=(by omega)
    have a4:R<123:=(by omega)
    have a5:R<256:=(by omega)
    rw[Sr.key_stop (Sr.letter_false (by omega))]at hfo
    have HS:Hid ((BH Ed (out,true) (S.data.toList.drop (pos+K))).1=F):=J hfo
    clear hfo hc
    go_wp2
    go_roundw
    case rel=>exact⟨pos+K,out,true,rfl,by omega,hI2,HI.out,hbw2,HS,HV2,by omega⟩
    case measure=>simp only[Bu,HI.out,HIT.out];omega
   ·have a1:97≤R:=(by omega)
    have a2:R≤122:=(by omega)
    have hl:=Sr.letter_true (c:=R) (by omega)
    clear hc
    cases gap with
    | false =>
     rw[Sr.key_go hl]at hfo
     have HS:Hid ((BH Ed (out++q,false) (S.data.toList.drop (pos+K))).1=F):=J hfo
     clear hfo hl
     go_wp2_with (go_at_call 162;refine (WriteRuneI_c w.heap.size w.heap.size (out) _ (by omega) (by omega) _ hI2 (by omega) hsz2).mono ?_;rintro e w5 ⟨⟨n,rfl⟩,hI5,hb5,k5⟩)
     rw[HEN.out]at hI5
     go_roundw
     case rel=>exact⟨pos+K,out++q,false,rfl,by omega,hI5,k5.iter HI.out (by omega),hbw2.trans hb5,HS,HV2,by simp;omega⟩
     case measure=>simp only[Bu,k5.iter HI.out (by omega),HIT.out];omega
    | true =>
     by_cases ho:out=[]
     ·subst ho
      rw[Sr.key_first hl]at hfo
      have HS:Hid ((BH Ed ([]++q,false) (S.data.toList.drop (pos+K))).1=F):=J hfo
      clear hfo hl
      go_wp2_with (first | (go_at_call 181;refine (BLen_c w.heap.size w.heap.size [] _ hI2).mono ?_;rintro e w3 ⟨rfl,rfl⟩) | (go_at_call 162;refine (WriteRuneI_c w.heap.size w.heap.size ([]) _ (by omega) (by omega) _ hI2 (by simp) hsz2).mono ?_;rintro e w5 ⟨⟨n,rfl⟩,hI5,hb5,k5⟩))
      rw[HEN.out]at hI5
      go_roundw
      case rel=>exact⟨pos+K,[]++q,false,rfl,by omega,hI5,k5.iter HI.out (by omega),hbw2.trans hb5,HS,HV2,by simp;omega⟩
      case measure=>simp only[Bu,k5.iter HI.out (by omega),HIT.out];omega
     ·rw[Sr.key_gap hl ho]at hfo
      have HS:Hid ((BH Ed (out++[32]++q,false) (S.data.toList.drop (pos+K))).1=F):=J hfo
      have hlo:0<out.length:=BV.2 ho
      clear hfo hl ho
      go_wp2_with (first | (go_at_call 181;refine (BLen_c w.heap.size w.heap.size out _ hI2).mono ?_;rintro e w3 ⟨rfl,rfl⟩) | (go_at_call 182;refine (WB32_c w.heap.size w.heap.size out _ hI2 (by omega) hsz2).mono ?_;rintro e w4 ⟨rfl,hI4,hb4,k4⟩;have hsz4:=hb4.size) | (go_at_call 162;refine (WriteRuneI_c w.heap.size w.heap.size (out++[32]) _ (by omega) (by omega) _ hI4 (by simp;omega) (AK hsz2 hsz4)).mono ?_;rintro e w5 ⟨⟨n,rfl⟩,hI5,hb5,k5⟩))
      rw[HEN.out]at hI5
      go_roundw
      case rel=>exact⟨pos+K,out++[32]++q,false,rfl,by omega,hI5,k5.iter (k4.iter HI.out (by omega)) (by omega),(hbw2.trans hb4).trans hb5,HS,HV2,by simp;omega⟩
      case measure=>simp only[Bu,k5.iter (k4.iter HI.out (by omega)) (by omega),HIT.out];omega
   ·have a1:97≤R:=(by omega)
    have a2:122<R:=(by omega)
    have a3:48≤R:=(by omega)
    have a4:57<R:=(by omega)
    have a5:123≤R:=(by omega)
    have a6:R≤126:=(by omega)
    have hl:=Sr.letter_true (c:=R) (by omega)
    clear hc
    cases gap with
    | false =>
     rw[Sr.key_go hl]at hfo
     have HS:Hid ((BH Ed (out++q,false) (S.data.toList.drop (pos+K))).1=F):=J hfo
     clear hfo hl
     go_wp2_with (go_at_call 162;refine (WriteRuneI_c w.heap.size w.heap.size (out) _ (by omega) (by omega) _ hI2 (by omega) hsz2).mono ?_;rintro e w5 ⟨⟨n,rfl⟩,hI5,hb5,k5⟩)
     rw[HEN.out]at hI5
     go_roundw
     case rel=>exact⟨pos+K,out++q,false,rfl,by omega,hI5,k5.iter HI.out (by omega),hbw2.trans hb5,HS,HV2,by simp;omega⟩
     case measure=>simp only[Bu,k5.iter HI.out (by omega),HIT.out];omega
    | true =>
     by_cases ho:out=[]
     ·subst ho
      rw[Sr.key_first hl]at hfo
      have HS:Hid ((BH Ed ([]++q,false) (S.data.toList.drop (pos+K))).1=F):=J hfo
      clear hfo hl
      go_wp2_with (first | (go_at_call 181;refine (BLen_c w.heap.size w.heap.size [] _ hI2).mono ?_;rintro e w3 ⟨rfl,rfl⟩) | (go_at_call 162;refine (WriteRuneI_c w.heap.size w.heap.size ([]) _ (by omega) (by omega) _ hI2 (by simp) hsz2).mono ?_;rintro e w5 ⟨⟨n,rfl⟩,hI5,hb5,k5⟩))
      rw[HEN.out]at hI5
      go_roundw
      case rel=>exact⟨pos+K,[]++q,false,rfl,by omega,hI5,k5.iter HI.out (by omega),hbw2.trans hb5,HS,HV2,by simp;omega⟩
      case measure=>simp only[Bu,k5.iter HI.out (by omega),HIT.out];omega
     ·rw[Sr.key_gap hl ho]at hfo
      have HS:Hid ((BH Ed (out++[32]++q,false) (S.data.toList.drop (pos+K))).1=F):=J hfo
      have hlo:0<out.length:=BV.2 ho
      clear hfo hl ho
      go_wp2_with (first | (go_at_call 181;refine (BLen_c w.heap.size w.heap.size out _ hI2).mono ?_;rintro e w3 ⟨rfl,rfl⟩) | (go_at_call 182;refine (WB32_c w.heap.size w.heap.size out _ hI2 (by omega) hsz2).mono ?_;rintro e w4 ⟨rfl,hI4,hb4,k4⟩;have hsz4:=hb4.size) | (go_at_call 162;refine (WriteRuneI_c w.heap.size w.heap.size (out++[32]) _ (by omega) (by omega) _ hI4 (by simp;omega) (AK hsz2 hsz4)).mono ?_;rintro e w5 ⟨⟨n,rfl⟩,hI5,hb5,k5⟩))
      rw[HEN.out]at hI5
      go_roundw
      case rel=>exact⟨pos+K,out++[32]++q,false,rfl,by omega,hI5,k5.iter (k4.iter HI.out (by omega)) (by omega),(hbw2.trans hb4).trans hb5,HS,HV2,by simp;omega⟩
      case measure=>simp only[Bu,k5.iter (k4.iter HI.out (by omega)) (by omega),HIT.out];omega
   ·have a1:97≤R:=(by omega)
    have a2:122<R:=(by omega)
    have a3:48≤R:=(by omega)
    have a4:57<R:=(by omega)
    have a5:123≤R:=(by omega)
    have a6:126<R:=(by omega)
    have a7:R<256:=(by omega)
    rw[Sr.key_stop (Sr.letter_false (by omega))]at hfo
    have HS:Hid ((BH Ed (out,true) (S.data.toList.drop (pos+K))).1=F):=J hfo
    clear hfo hc
    go_wp2
    go_roundw
    case rel=>exact⟨pos+K,out,true,rfl,by omega,hI2,HI.out,hbw2,HS,HV2,by omega⟩
    case measure=>simp only[Bu,HI.out,HIT.out];omega
   ·have a1:97≤R:=(by omega)
    have a2:122<R:=(by omega)
    have a3:48≤R:=(by omega)
    have a4:57<R:=(by omega)
    have a5:123≤R:=(by omega)
    have a6:126<R:=(by omega)
    have a7:256≤R:=(by omega)
    have hl:=Sr.letter_true (c:=R) (by omega)
    clear hc
    cases gap with
    | false =>
     rw[Sr.key_go hl]at hfo
     have HS:Hid ((BH Ed (out++q,false) (S.data.toList.drop (pos+K))).1=F):=J hfo
     clear hfo hl
     go_wp2_with (go_at_call 162;refine (WriteRuneI_c w.heap.size w.heap.size (out) _ (by omega) (by omega) _ hI2 (by omega) hsz2).mono ?_;rintro e w5 ⟨⟨n,rfl⟩,hI5,hb5,k5⟩)
     rw[HEN.out]at hI5
     go_roundw
     case rel=>exact⟨pos+K,out++q,false,rfl,by omega,hI5,k5.iter HI.out (by omega),hbw2.trans hb5,HS,HV2,by simp;omega⟩
     case measure=>simp only[Bu,k5.iter HI.out (by omega),HIT.out];omega
    | true =>
     by_cases ho:out=[]
     ·subst ho
      rw[Sr.key_first hl]at hfo
      have HS:Hid ((BH Ed ([]++q,false) (S.data.toList.drop (pos+K))).1=F):=J hfo
      clear hfo hl
      go_wp2_with (first | (go_at_call 181;refine (BLen_c w.heap.size w.heap.size [] _ hI2).mono ?_;rintro e w3 ⟨rfl,rfl⟩) | (go_at_call 162;refine (WriteRuneI_c w.heap.size w.heap.size ([]) _ (by omega) (by omega) _ hI2 (by simp) hsz2).mono ?_;rintro e w5 ⟨⟨n,rfl⟩,hI5,hb5,k5⟩))
      rw[HEN.out]at hI5
      go_roundw
      case rel=>exact⟨pos+K,[]++q,false,rfl,by omega,hI5,k5.iter HI.out (by omega),hbw2.trans hb5,HS,HV2,by simp;omega⟩
      case measure=>simp only[Bu,k5.iter HI.out (by omega),HIT.out];omega
     ·rw[Sr.key_gap hl ho]at hfo
      have HS:Hid ((BH Ed (out++[32]++q,false) (S.data.toList.drop (pos+K))).1=F):=J hfo
      have hlo:0<out.length:=BV.2 ho
      clear hfo hl ho
      go_wp2_with (first | (go_at_call 181;refine (BLen_c w.heap.size w.heap.size out _ hI2).mono ?_;rintro e w3 ⟨rfl,rfl⟩) | (go_at_call 182;refine (WB32_c w.heap.size w.heap.size out _ hI2 (by omega) hsz2).mono ?_;rintro e w4 ⟨rfl,hI4,hb4,k4⟩;have hsz4:=hb4.size) | (go_at_call 162;refine (WriteRuneI_c w.heap.size w.heap.size (out++[32]) _ (by omega) (by omega) _ hI4 (by simp;omega) (AK hsz2 hsz4)).mono ?_;rintro e w5 ⟨⟨n,rfl⟩,hI5,hb5,k5⟩))
      rw[HEN.out]at hI5
      go_roundw
      case rel=>exact⟨pos+K,out++[32]++q,false,rfl,by omega,hI5,k5.iter (k4.iter HI.out (by omega)) (by omega),(hbw2.trans hb4).trans hb5,HS,HV2,by simp;omega⟩
      case measure=>simp only[Bu,k5.iter (k4.iter HI.out (by omega)) (by omega),HIT.out];omega
  ·have hnx:∀ ty,(Ht (.pointer (A2 ⟨w2.heap.size,0,A4⟩)) true ty).run A3 wr=_:=fun ty=>If wr w2.heap.size S pos ty hit hp
   have hfin:out=F:=by
    rw[← hFo.out,AB (by rw[← Ak];omega),Ge]
   have HFIN:=J hfin;clear hfin
   have hwsz:w.heap.size≤wr.heap.size:=hbw.size
   go_wp2_with (go_at_call 164;refine (Tryz.Builder_String_any_f w.heap.size w.heap.size out _ hI hwsz).mono ?_;rintro e w3 ⟨rfl,hI3,hb3⟩)
   go_ret
   exact⟨Tx.rets (by rw[HFIN.out]),hbw.trans hb3⟩
end
end Go.Proofs.YtlakomilichhnaaGreatDoor
