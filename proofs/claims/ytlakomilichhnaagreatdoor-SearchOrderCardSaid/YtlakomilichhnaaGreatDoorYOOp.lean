/- Texts of this seat's, what the claim needs of them. -/
import Derived.Test.YtlakomilichhnaaGreatDoorYOOc
import Derived.Test.YtlakomilichhnaaGreatDoorZOp
import Derived.Laws.Runes
namespace Go.Proofs.YtlakomilichhnaaGreatDoor
set_option maxHeartbeats 3200000
set_option maxRecDepth 100000
open Go.RowKit
open Int renaming toNat_natCast→Ja
open Lib renaming below_iterAt→Jy,hid→J,iterAt_heap→K5,iterAt_size→Ls,run_next_any_at→Ie,run_next_end_at→If,size_eq→Ak,toList_data→AA
open List renaming drop_drop→BT,drop_eq_nil_of_le→AB,drop_zero→AM,length_drop→AG,length_take_le→JJ,map_cons→Cf,map_nil→Ee
open Nat renaming zero_le→Ae
open Proofs.Tryz renaming func109→NA,func242→DE,func243→KH,ntmps109→N5,ntmps242→Dj,ntmps243→JR,prog→A3
open Sr renaming cmpB→Kv,key→Ku,keyStep→Ed,letter_false→JX,letter_true→Ij,replStep→Du,str_eq→JW
open Tx renaming foldT→BH,foldT_step→I4,rdec→Bv,retb→Ay,step→A8,valid→AL,valid_head→IV
open Utf8 renaming decode→Iz,encode→Jn,valid→L3
open World renaming iterPos→Bu,iter_heap→K4
open _root_.Array renaming getElem?_eq_some_iff→AN,toList_inj→Dr
open _root_.ByteArray renaming ext→DH,size_append→EA
namespace Sr
theorem enc_same (r:Nat) (h:r≤65535):(Jn (r:Int)).data.toList=Lib.encodeRune (r:Int):=by
 unfold Lib.encodeRune
 by_cases h1:r<128
 ·have hv:L3 (r:Int)=true:=by unfold L3;simp;omega
  rw[Lib.encodeRuneZ_one (by omega) (by omega)]
  unfold Jn
  simp only[hv,if_true,Ja,h1]
  first | done | rfl
 ·by_cases h2:r<2048
  ·have hv:L3 (r:Int)=true:=by unfold L3;simp;omega
   rw[Lib.encodeRuneZ_two (by omega) (by omega)]
   unfold Jn
   simp only[hv,if_true,Ja,h1,if_false,h2]
   have e1:(192+(r:Int) / 64).toNat=192+r / 64:=by omega
   have e2:(128+(r:Int) % 64).toNat=128+r % 64:=by omega
   simp only[Cf,Ee,e1,e2]
   first | done | rfl
  ·unfold Lib.encodeRuneZ
   rw[if_neg (by omega),if_neg (by omega)]
   by_cases h3:(2048≤(r:Int)∧(r:Int)<55296)∨(57343<(r:Int)∧(r:Int)≤65535)
   ·have hv:L3 (r:Int)=true:=by unfold L3;simp;omega
    rw[if_pos h3]
    have h4:r<65536:=by omega
    unfold Jn
    simp only[hv,if_true,Ja,h1,if_false,h2,h4]
    have e1:(224+(r:Int) / 4096).toNat=224+r / 4096:=by omega
    have e2:(128+(r:Int) / 64 % 64).toNat=128+r / 64 % 64:=by omega
    have e3:(128+(r:Int) % 64).toNat=128+r % 64:=by omega
    simp only[Cf,Ee,e1,e2,e3]
    first | done | rfl
   ·have hv:L3 (r:Int)=false:=by unfold L3;simp;omega
    rw[if_neg h3,if_neg (by omega)]
    unfold Jn
    simp only[hv,Bool.false_eq_true,if_false]
    rfl
theorem enc_piece {R:Nat}{q:By} (h:R≤65535) (hq:Lib.encodeRune (R:Int)=q):Jn (R:Int)=⟨q.toArray⟩:=by
 apply DH;apply Dr.1
 rw[enc_same R h,hq]
structure EncIs (R:Nat) (q:By):Prop where
 out:Jn (R:Int)=⟨q.toArray⟩
theorem enc_size {R:Nat}{q:By} (h:R≤65535) (hq:Lib.encodeRune (R:Int)=q):(Jn (R:Int)).size=q.length:=by
 rw[enc_piece h hq,Tx.size_mk]
end Sr
theorem r02_replaced_c (lang:ByteArray) (R:Nat) (q:Sr.By) (w:World) (hR:R≤65535) (hq:Lib.encodeRune (R:Int)=q) :
  Calls A3 242 #[.string lang,.int .i32 R] w fun e w'=>e=.returned (.string ⟨(Sr.replC lang.data.toList q R).toArray⟩)∧w'=w:=by
 obtain⟨L,hL⟩:∃ L,lang.data.toList=L:=⟨_,rfl⟩
 have eg:=JW lang [103,101,114]
 have es:=JW lang [115,119,101]
 have ep:=JW lang [115,112,97]
 rw[hL]at eg es ep ⊢
 have HEN:Sr.EncIs R q:=⟨Sr.enc_piece hR hq⟩
 obtain⟨T,hT⟩:∃ T:ByteArray,(⟨(Sr.replC L q R).toArray⟩:ByteArray)=T:=⟨_,rfl⟩
 rw[hT]
 unfold Sr.replC at hT
 clear hL hq hR
 by_cases hc:123≤R∧R≤126
 ·rw[if_pos hc]at hT
  obtain⟨g1,g2⟩:=hc
  have HT:=J hT
  clear hT eg es ep
  go_enter DE,Dj
  go_wp2
  go_ret
  exact⟨by rw[← HT.out];rfl,rfl⟩
 ·rw[if_neg hc]at hT
  by_cases k1:L=[103,101,114]
  ·rw[decide_eq_true k1]at eg
   rw[if_pos k1]at hT
   clear k1 es ep
   by_cases m0:R=196∨R=228
   ·rw[if_pos m0]at hT
    rcases m0 with rfl | rfl
    ·clear hc
     have HT:=J hT
     clear hT
     go_enter DE,Dj
     go_wp2
     go_ret
     exact⟨by rw[← HT.out];rfl,rfl⟩
    ·clear hc
     have HT:=J hT
     clear hT
     go_enter DE,Dj
     go_wp2
     go_ret
     exact⟨by rw[← HT.out];rfl,rfl⟩
   ·rw[if_neg m0]at hT
    by_cases m1:R=214∨R=246
    ·rw[if_pos m1]at hT
     rcases m1 with rfl | rfl
     ·clear hc m0
      have HT:=J hT
      clear hT
      go_enter DE,Dj
      go_wp2
      go_ret
      exact⟨by rw[← HT.out];rfl,rfl⟩
     ·clear hc m0
      have HT:=J hT
      clear hT
      go_enter DE,Dj
      go_wp2
      go_ret
      exact⟨by rw[← HT.out];rfl,rfl⟩
    ·rw[if_neg m1]at hT
     by_cases m2:R=220∨R=252
     ·rw[if_pos m2]at hT
      rcases m2 with rfl | rfl
      ·clear hc m0 m1
       have HT:=J hT
       clear hT
       go_enter DE,Dj
       go_wp2
       go_ret
       exact⟨by rw[← HT.out];rfl,rfl⟩
      ·clear hc m0 m1
       have HT:=J hT
       clear hT
       go_enter DE,Dj
       go_wp2
       go_ret
       exact⟨by rw[← HT.out];rfl,rfl⟩
     ·rw[if_neg m2]at hT
      have n196:((R:Int) == 196)=false:=beq_eq_false_iff_ne.2 (by omega)
      have n228:((R:Int) == 228)=false:=beq_eq_false_iff_ne.2 (by omega)
      have n214:((R:Int) == 214)=false:=beq_eq_false_iff_ne.2 (by omega)
      have n246:((R:Int) == 246)=false:=beq_eq_false_iff_ne.2 (by omega)
      have n220:((R:Int) == 220)=false:=beq_eq_false_iff_ne.2 (by omega)
      have n252:((R:Int) == 252)=false:=beq_eq_false_iff_ne.2 (by omega)
      rcases (by omega:R<123∨(123≤R∧126<R)) with g1 | ⟨g1,g2⟩
      ·clear hc m0 m1 m2
       have HT:=J hT
       clear hT
       go_enter DE,Dj
       go_wp2
       go_ret
       exact⟨by rw[HEN.out,← HT.out];rfl,rfl⟩
      ·clear hc m0 m1 m2
       have HT:=J hT
       clear hT
       go_enter DE,Dj
       go_wp2
       go_ret
       exact⟨by rw[HEN.out,← HT.out];rfl,rfl⟩
  ·rw[decide_eq_false k1]at eg
   rw[if_neg k1]at hT
   by_cases k2:L=[115,119,101]
   ·rw[decide_eq_true k2]at es
    rw[if_pos k2]at hT
    clear k1 k2 ep
    by_cases m0:R=197∨R=229
    ·rw[if_pos m0]at hT
     rcases m0 with rfl | rfl
     ·clear hc
      have HT:=J hT
      clear hT
      go_enter DE,Dj
      go_wp2
      go_ret
      exact⟨by rw[← HT.out];rfl,rfl⟩
     ·clear hc
      have HT:=J hT
      clear hT
      go_enter DE,Dj
      go_wp2
      go_ret
      exact⟨by rw[← HT.out];rfl,rfl⟩
    ·rw[if_neg m0]at hT
     by_cases m1:R=196∨R=228
     ·rw[if_pos m1]at hT
      rcases m1 with rfl | rfl
      ·clear hc m0
       have HT:=J hT
       clear hT
       go_enter DE,Dj
       go_wp2
       go_ret
       exact⟨by rw[← HT.out];rfl,rfl⟩
      ·clear hc m0
       have HT:=J hT
       clear hT
       go_enter DE,Dj
       go_wp2
       go_ret
       exact⟨by rw[← HT.out];rfl,rfl⟩
     ·rw[if_neg m1]at hT
      by_cases m2:R=214∨R=246
      ·rw[if_pos m2]at hT
       rcases m2 with rfl | rfl
       ·clear hc m0 m1
        have HT:=J hT
        clear hT
        go_enter DE,Dj
        go_wp2
        go_ret
        exact⟨by rw[← HT.out];rfl,rfl⟩
       ·clear hc m0 m1
        have HT:=J hT
        clear hT
        go_enter DE,Dj
        go_wp2
        go_ret
        exact⟨by rw[← HT.out];rfl,rfl⟩
      ·rw[if_neg m2]at hT
       have n197:((R:Int) == 197)=false:=beq_eq_false_iff_ne.2 (by omega)
       have n229:((R:Int) == 229)=false:=beq_eq_false_iff_ne.2 (by omega)
       have n196:((R:Int) == 196)=false:=beq_eq_false_iff_ne.2 (by omega)
       have n228:((R:Int) == 228)=false:=beq_eq_false_iff_ne.2 (by omega)
       have n214:((R:Int) == 214)=false:=beq_eq_false_iff_ne.2 (by omega)
       have n246:((R:Int) == 246)=false:=beq_eq_false_iff_ne.2 (by omega)
       rcases (by omega:R<123∨(123≤R∧126<R)) with g1 | ⟨g1,g2⟩
       ·clear hc m0 m1 m2
        have HT:=J hT
        clear hT
        go_enter DE,Dj
        go_wp2
        go_ret
        exact⟨by rw[HEN.out,← HT.out];rfl,rfl⟩
       ·clear hc m0 m1 m2
        have HT:=J hT
        clear hT
        go_enter DE,Dj
        go_wp2
        go_ret
        exact⟨by rw[HEN.out,← HT.out];rfl,rfl⟩
   ·rw[decide_eq_false k2]at es
    rw[if_neg k2]at hT
    by_cases k3:L=[115,112,97]
    ·rw[decide_eq_true k3]at ep
     rw[if_pos k3]at hT
     clear k1 k2 k3
     by_cases m0:R=209∨R=241
     ·rw[if_pos m0]at hT
      rcases m0 with rfl | rfl
      ·clear hc
       have HT:=J hT
       clear hT
       go_enter DE,Dj
       go_wp2
       go_ret
       exact⟨by rw[← HT.out];rfl,rfl⟩
      ·clear hc
       have HT:=J hT
       clear hT
       go_enter DE,Dj
       go_wp2
       go_ret
       exact⟨by rw[← HT.out];rfl,rfl⟩
     ·rw[if_neg m0]at hT
      have n209:((R:Int) == 209)=false:=beq_eq_false_iff_ne.2 (by omega)
      have n241:((R:Int) == 241)=false:=beq_eq_false_iff_ne.2 (by omega)
      rcases (by omega:R<123∨(123≤R∧126<R)) with g1 | ⟨g1,g2⟩
      ·clear hc m0
       have HT:=J hT
       clear hT
       go_enter DE,Dj
       go_wp2
       go_ret
       exact⟨by rw[HEN.out,← HT.out];rfl,rfl⟩
      ·clear hc m0
       have HT:=J hT
       clear hT
       go_enter DE,Dj
       go_wp2
       go_ret
       exact⟨by rw[HEN.out,← HT.out];rfl,rfl⟩
    ·rw[decide_eq_false k3]at ep
     rw[if_neg k3]at hT
     clear k1 k2 k3
     rcases (by omega:R<123∨(123≤R∧126<R)) with g1 | ⟨g1,g2⟩
     ·clear hc
      have HT:=J hT
      clear hT
      go_enter DE,Dj
      go_wp2
      go_ret
      exact⟨by rw[HEN.out,← HT.out];rfl,rfl⟩
     ·clear hc
      have HT:=J hT
      clear hT
      go_enter DE,Dj
      go_wp2
      go_ret
      exact⟨by rw[HEN.out,← HT.out];rfl,rfl⟩
theorem r02_letter_c (R:Nat) (w:World) :
  Calls A3 243 #[.int .i32 R] w fun e w'=>e=.returned (.bool (Sr.letter R))∧w'=w:=by
 rcases (by omega:(R<48)∨(48≤R∧R≤57)∨(57<R∧R<97)∨(97≤R∧R≤122)∨(123≤R∧R≤126)∨(126<R∧R<256)∨(256≤R)) with hc | hc | hc | hc | hc | hc | hc
 ·rw[JX (by omega)]
  have a0:R<48:=(by omega)
  have a1:R<97:=(by omega)
  have a2:R<123:=(by omega)
  have a3:R<256:=(by omega)
  clear hc
  go_enter KH,JR
  go_wp2
  go_ret
  exact⟨Ay (by first | rfl | (simp;done) | (simp;omega)),rfl⟩
 ·rw[Ij (by omega)]
  have a1:R<97:=(by omega)
  have a2:48≤R:=(by omega)
  have a3:R≤57:=(by omega)
  clear hc
  go_enter KH,JR
  go_wp2
  go_ret
  exact⟨Ay (by first | rfl | (simp;done) | (simp;omega)),rfl⟩
 ·rw[JX (by omega)]
  have a1:R<97:=(by omega)
  have a2:48≤R:=(by omega)
  have a3:57<R:=(by omega)
  have a4:R<123:=(by omega)
  have a5:R<256:=(by omega)
  clear hc
  go_enter KH,JR
  go_wp2
  go_ret
  exact⟨Ay (by first | rfl | (simp;done) | (simp;omega)),rfl⟩
 ·rw[Ij (by omega)]
  have a1:97≤R:=(by omega)
  have a2:R≤122:=(by omega)
  clear hc
  go_enter KH,JR
  go_wp2
  go_ret
  exact⟨Ay (by first | rfl | (simp;done) | (simp;omega)),rfl⟩
 ·rw[Ij (by omega)]
  have a1:97≤R:=(by omega)
  have a2:122<R:=(by omega)
  have a3:48≤R:=(by omega)
  have a4:57<R:=(by omega)
  have a5:123≤R:=(by omega)
  have a6:R≤126:=(by omega)
  clear hc
  go_enter KH,JR
  go_wp2
  go_ret
  exact⟨Ay (by first | rfl | (simp;done) | (simp;omega)),rfl⟩
 ·rw[JX (by omega)]
  have a1:97≤R:=(by omega)
  have a2:122<R:=(by omega)
  have a3:48≤R:=(by omega)
  have a4:57<R:=(by omega)
  have a5:123≤R:=(by omega)
  have a6:126<R:=(by omega)
  have a7:R<256:=(by omega)
  clear hc
  go_enter KH,JR
  go_wp2
  go_ret
  exact⟨Ay (by first | rfl | (simp;done) | (simp;omega)),rfl⟩
 ·rw[Ij (by omega)]
  have a1:97≤R:=(by omega)
  have a2:122<R:=(by omega)
  have a3:48≤R:=(by omega)
  have a4:57<R:=(by omega)
  have a5:123≤R:=(by omega)
  have a6:126<R:=(by omega)
  have a7:256≤R:=(by omega)
  clear hc
  go_enter KH,JR
  go_wp2
  go_ret
  exact⟨Ay (by first | rfl | (simp;done) | (simp;omega)),rfl⟩
theorem r02_Key_c (lang s:ByteArray) (w:World) (hs:s.size≤1000000) (hv:AL s.data.toList=true) :
  Calls A3 186 #[.string lang,.string s] w fun e w'=>e=.returned (.string ⟨(Ku lang.data.toList s.data.toList).toArray⟩)∧Below w.heap.size w w':=by
 obtain⟨F,hF⟩:∃ F,Ku lang.data.toList s.data.toList=F:=⟨_,rfl⟩
 rw[hF]
 unfold Ku at hF
 have hrv:=Sr.repl_valid (lang:=lang.data.toList) hv
 have hrl:=Sr.repl_len (lang:=lang.data.toList) hv
 rw[← Ak]at hrl
 obtain⟨T,hT⟩:∃ T:ByteArray,T.data.toList=Sr.repl lang.data.toList s.data.toList:=⟨⟨(Sr.repl lang.data.toList s.data.toList).toArray⟩,rfl⟩
 rw[← hT]at hrv hrl hF
 rw[← Ak]at hrl
 have hfv:=Tx.foldS_valid hrv
 have hfl:=Tx.foldS_len hrv
 rw[← Ak]at hfl
 obtain⟨S,hS⟩:∃ S:ByteArray,(⟨(Tx.foldS T.data.toList).toArray⟩:ByteArray)=S:=⟨_,rfl⟩
 have FC:∀ w',Calls A3 188 #[.string T] w' fun e w''=>e=.returned (.string S)∧Below w'.heap.size w' w'':=fun w'=>by
  have:=r01_Fold_c T w' (by omega)
  rw[hS]at this
  exact this
 have hSd:S.data.toList=Tx.foldS T.data.toList:=by rw[← hS]
 rw[← hSd]at hF hfv hfl
 rw[← Ak]at hfl
 have hsz9:S.size≤6000000:=by omega
 have HFC:=J FC
 have HF:=J hF
 have HV:=J hv
 have HV9:=J hfv
 have HT:=J hT
 rw[Sr.repl_fold]at HT
 clear FC hF hfv hrv hrl hfl hS hSd hv hT
 go_enter Tryz.func186,Tryz.ntmps186
 go_wp2
 go_loopw [5] (fun v wr=>∃ (pos:Nat) (out:ByteArray),v=.string out∧pos≤s.size∧wr.heap[w.heap.size]?=some (.stringIter s pos)∧Below w.heap.size w wr∧Hid (BH (Du lang.data.toList) out.data.toList (s.data.toList.drop pos)=T.data.toList)∧Hid (AL (s.data.toList.drop pos)=true)∧out.size≤3*pos) (fun _ wr=>s.size - wr.iterPos w.heap.size)
 case atStart =>
  refine⟨0,⟨#[]⟩,rfl,Ae _,?_,Tx.newb _ _,J (by rw[AM];exact HT.out.symm),J (by rw[AM];exact HV.out),Ae _⟩
  have:=K4 w s 0
  simpa using this
 case round =>
  obtain⟨pos,out,rfl,hps,hit,hbw,hFo,hVp,hol⟩:=hrel
  have hsz:w.heap.size<wr.heap.size:=(AN.1 hit).1
  by_cases hp:pos<s.size
  ·have RC0:=r02_replaced_c lang
   have hnx:∀ ty,(Instr.next (.pointer (some ⟨w.heap.size,0,none⟩)) true ty).run A3 wr=_:=fun ty=>Ie wr (w.heap.size) s pos ty hit hp
   have hne:s.data.toList.drop pos≠[]:=Tx.drop_ne (by rw[← Ak];exact hp)
   obtain⟨hz,hd,hw,hv2,_⟩:=IV hne hVp.out
   have hdec:Iz s pos=Bv (s.data.toList.drop pos):=by rw[← Lib.decodeL_drop,hd]
   have hle:=Tx.wid_le hne
   have hwp:=Tx.wid_pos (s.data.toList.drop pos)
   rw[AG,← Ak]at hle
   have hen:=Tx.enc_head hne hz
   have hru:=Tx.rdec_rune (s.data.toList.drop pos)
   have hfo:=hFo.out
   rw[I4 (Du lang.data.toList) _ hne,BT]at hfo
   rw[BT]at hv2
   rw[← hw]at hen
   rw[hdec,← hw]at hnx
   generalize hK:Tx.wid (s.data.toList.drop pos)=K at hle hwp hfo hv2 hen hnx
   generalize hR:(Bv (s.data.toList.drop pos)).1=R at hru hfo hen hnx
   obtain⟨q,hq⟩:∃ q,(s.data.toList.drop pos).take K=q:=⟨_,rfl⟩
   have hql:q.length≤K:=by rw[← hq];exact JJ _ _
   rw[hq]at hfo hen
   have hit2:=K5 wr (w.heap.size) s pos (pos+K) hit
   have hbw2:=Jy hbw (k:=w.heap.size) (by omega) s (pos+K)
   have hsz2:w.heap.size≤(wr.iterAt (w.heap.size) s (pos+K)).heap.size:=by rw[Ls];omega
   obtain⟨V,hVd⟩:∃ V,wr.iterAt (w.heap.size) s (pos+K)=V:=⟨_,rfl⟩
   rw[hVd]at hnx hit2 hbw2 hsz2
   have HIT:=J hit
   have HI:=J hit2
   have HEN:=J hen
   have HV2:Hid (AL (s.data.toList.drop (pos+K))=true):=J hv2
   clear hne hz hd hw hv2 hdec hit hbw hFo hVp hVd hit2 hq hen hK hR
   have RC:∀ w',Calls A3 242 #[.string lang,.int .i32 R] w' fun e w''=>e=.returned (.string ⟨(Sr.replC lang.data.toList q R).toArray⟩)∧w''=w':=fun w'=>RC0 R q w' hru HEN.out
   clear hru
   obtain⟨X,hX⟩:∃ X:ByteArray,(⟨(Sr.replC lang.data.toList q R).toArray⟩:ByteArray)=X:=⟨_,rfl⟩
   have hXd:Sr.replC lang.data.toList q R=X.data.toList:=by rw[← hX]
   have hXs:X.size≤q.length+2:=by rw[Ak,← hXd];exact Sr.replC_len _ _ _
   rw[hX]at RC
   unfold Du at hfo
   rw[hXd,show out.data.toList++X.data.toList=(out++X).data.toList by simp]at hfo
   have HS:Hid (BH (Du lang.data.toList) (out++X).data.toList (s.data.toList.drop (pos+K))=T.data.toList):=J hfo
   have HRC:=J RC
   clear RC RC0 hfo hX hXd
   go_wp2_with (go_at_call 242;((with_reducible refine (HRC.out _).mono ?_);rintro e w1 ⟨rfl,rfl⟩))
   go_roundw
   case rel=>exact⟨pos+K,out++X,rfl,by omega,HI.out,hbw2,HS,HV2,by rw[EA];omega⟩
   case measure=>simp only[Bu,HI.out,HIT.out];omega
  ·have hnx:∀ ty,(Instr.next (.pointer (some ⟨w.heap.size,0,none⟩)) true ty).run A3 wr=_:=fun ty=>If wr w.heap.size s pos ty hit hp
   have hfin:out=T:=by
    apply DH;apply Dr.1
    rw[← hFo.out,AB (by rw[← Ak];omega),Tx.foldT_nil]
   subst hfin
   clear hFo hVp
   obtain⟨wo,hwo⟩:∃ wo,wr=wo:=⟨_,rfl⟩
   subst hwo
   go_wp2_with (go_at_call 188;((with_reducible refine (HFC.out _).mono ?_);rintro e w2 ⟨rfl,hb2⟩;have hb12:=A8 hbw hb2;have hs12:=hb12.size))
   go_loopw [8,9] (fun v g wr=>∃ (pos:Nat) (out:ByteArray) (gap:Bool),v=.string out∧g=.bool gap∧pos≤S.size∧wr.heap[w2.heap.size]?=some (.stringIter S pos)∧Below w.heap.size w wr∧Hid ((BH Ed (out.data.toList,gap) (S.data.toList.drop pos)).1=F)∧Hid (AL (S.data.toList.drop pos)=true)∧out.size≤2*pos) (fun _ _ wr=>S.size - wr.iterPos w2.heap.size)
   case atStart =>
    refine⟨0,⟨#[]⟩,false,rfl,rfl,Ae _,?_,hb12.alloc hs12 _,J (by rw[AM];exact HF.out),J (by rw[AM];exact HV9.out),Ae _⟩
    have:=K4 w2 S 0
    simpa using this
   case round =>
    obtain⟨pos,out,gap,rfl,rfl,hps,hit,hbw,hFo,hVp,hol⟩:=hrel
    have hsz:w2.heap.size<wr.heap.size:=(AN.1 hit).1
    by_cases hp:pos<S.size
    ·have LC0:=r02_letter_c
     have hnx:∀ ty,(Instr.next (.pointer (some ⟨w2.heap.size,0,none⟩)) true ty).run A3 wr=_:=fun ty=>Ie wr (w2.heap.size) S pos ty hit hp
     have hne:S.data.toList.drop pos≠[]:=Tx.drop_ne (by rw[← Ak];exact hp)
     obtain⟨hz,hd,hw,hv2,_⟩:=IV hne hVp.out
     have hdec:Iz S pos=Bv (S.data.toList.drop pos):=by rw[← Lib.decodeL_drop,hd]
     have hle:=Tx.wid_le hne
     have hwp:=Tx.wid_pos (S.data.toList.drop pos)
     rw[AG,← Ak]at hle
     have hen:=Tx.enc_head hne hz
     have hru:=Tx.rdec_rune (S.data.toList.drop pos)
     have hfo:=hFo.out
     rw[I4 Ed _ hne,BT]at hfo
     rw[BT]at hv2
     rw[← hw]at hen
     rw[hdec,← hw]at hnx
     generalize hK:Tx.wid (S.data.toList.drop pos)=K at hle hwp hfo hv2 hen hnx
     generalize hR:(Bv (S.data.toList.drop pos)).1=R at hru hfo hen hnx
     obtain⟨q,hq⟩:∃ q,(S.data.toList.drop pos).take K=q:=⟨_,rfl⟩
     have hql:q.length≤K:=by rw[← hq];exact JJ _ _
     rw[hq]at hfo hen
     have hit2:=K5 wr (w2.heap.size) S pos (pos+K) hit
     have hbw2:=Jy hbw (k:=w2.heap.size) (by omega) S (pos+K)
     have hsz2:w.heap.size≤(wr.iterAt (w2.heap.size) S (pos+K)).heap.size:=by rw[Ls];omega
     obtain⟨V,hVd⟩:∃ V,wr.iterAt (w2.heap.size) S (pos+K)=V:=⟨_,rfl⟩
     rw[hVd]at hnx hit2 hbw2 hsz2
     have HIT:=J hit
     have HI:=J hit2
     have HEN:=J hen
     have HV2:Hid (AL (S.data.toList.drop (pos+K))=true):=J hv2
     clear hne hz hd hw hv2 hdec hit hbw hFo hVp hVd hit2 hq hen hK hR
     have HU:=J (Sr.enc_piece (q:=q) (by omega) HEN.out)
     have hus:=Sr.enc_size (q:=q) (by omega) HEN.out
     have LC:∀ w',Calls A3 243 #[.int .i32 R] w' fun e w''=>e=.returned (.bool (Sr.letter R))∧w''=w':=fun w'=>LC0 R w'
     obtain⟨U,hU⟩:∃ U,Jn (R:Int)=U:=⟨_,rfl⟩
     rw[hU]at HU hus
     have HUd:Hid (U.data.toList=q):=J (by rw[HU.out])
     clear LC0 hru
     cases hl:Sr.letter R with
     | false =>
      rw[hl]at LC
      rw[Sr.key_stop hl]at hfo
      have HS:Hid ((BH Ed (out.data.toList,true) (S.data.toList.drop (pos+K))).1=F):=J hfo
      clear hfo hl
      go_wp2_with (go_at_call 243;((with_reducible refine (LC _).mono ?_);rintro e w3 ⟨rfl,rfl⟩))
      go_roundw
      case rel=>exact⟨pos+K,out,true,rfl,rfl,by omega,HI.out,hbw2,HS,HV2,by omega⟩
      case measure=>simp only[Bu,HI.out,HIT.out];omega
     | true =>
      rw[hl]at LC
      cases gap with
      | false =>
       rw[Sr.key_go hl,← HUd.out,show out.data.toList++U.data.toList=(out++U).data.toList by simp]at hfo
       have HS:Hid ((BH Ed ((out++U).data.toList,false) (S.data.toList.drop (pos+K))).1=F):=J hfo
       clear hfo hl
       go_wp2_with (go_at_call 243;((with_reducible refine (LC _).mono ?_);rintro e w3 ⟨rfl,rfl⟩))
       go_roundw
       case rel=>exact⟨pos+K,out++U,false,rfl,rfl,by omega,HI.out,hbw2,HS,HV2,by rw[EA];omega⟩
       case measure=>simp only[Bu,HI.out,HIT.out];omega
      | true =>
       by_cases ho:out.data.toList=[]
       ·have ht:(out.toList == [])=true:=by rw[AA,ho];rfl
        have hoe:out.data.toList++U.data.toList=(out++U).data.toList:=by simp
        rw[ho,Sr.key_first hl,← HUd.out]at hfo
        have HS:Hid ((BH Ed ((out++U).data.toList,false) (S.data.toList.drop (pos+K))).1=F):=J (by rw[← hoe,ho,List.nil_append];exact hfo)
        clear hfo hl ho hoe
        go_wp2_with (go_at_call 243;((with_reducible refine (LC _).mono ?_);rintro e w3 ⟨rfl,rfl⟩))
        go_roundw
        case rel=>exact⟨pos+K,out++U,false,rfl,rfl,by omega,HI.out,hbw2,HS,HV2,by rw[EA];omega⟩
        case measure=>simp only[Bu,HI.out,HIT.out];omega
       ·have ht:(out.toList == [])=false:=by rw[AA];simpa using ho
        rw[Sr.key_gap hl ho,← HUd.out,show out.data.toList++[32]++U.data.toList=((out++⟨#[32]⟩)++U).data.toList by simp]at hfo
        have HS:Hid ((BH Ed (((out++⟨#[32]⟩)++U).data.toList,false) (S.data.toList.drop (pos+K))).1=F):=J hfo
        have h32:(⟨#[32]⟩:ByteArray).size=1:=rfl
        clear hfo hl ho
        go_wp2_with (go_at_call 243;((with_reducible refine (LC _).mono ?_);rintro e w3 ⟨rfl,rfl⟩))
        go_roundw
        case rel=>exact⟨pos+K,(out++⟨#[32]⟩)++U,false,rfl,rfl,by omega,HI.out,hbw2,HS,HV2,by rw[EA,EA];omega⟩
        case measure=>simp only[Bu,HI.out,HIT.out];omega
    ·have hnx:∀ ty,(Instr.next (.pointer (some ⟨w2.heap.size,0,none⟩)) true ty).run A3 wr=_:=fun ty=>If wr w2.heap.size S pos ty hit hp
     have hfin:out=⟨F.toArray⟩:=by
      apply DH;apply Dr.1
      rw[← hFo.out,AB (by rw[← Ak];omega),Tx.foldT_nil]
     have HFIN:=J hfin
     clear hfin hFo hVp
     go_wp2
     go_ret
     exact⟨by rw[HFIN.out];rfl,hbw⟩
theorem r02_Compare_c (lang a b:ByteArray) (w:World) (ha:a.size≤1000000) (hb:b.size≤1000000) (va:AL a.data.toList=true) (vb:AL b.data.toList=true) :
  Calls A3 109 #[.string lang,.string a,.string b] w fun e w'=>e=.returned (.int .i64 (Sr.cmp lang.data.toList a.data.toList b.data.toList))∧Below w.heap.size w w':=by
 obtain⟨X,hX⟩:∃ X:ByteArray,(⟨(Ku lang.data.toList a.data.toList).toArray⟩:ByteArray)=X:=⟨_,rfl⟩
 obtain⟨Y,hY⟩:∃ Y:ByteArray,(⟨(Ku lang.data.toList b.data.toList).toArray⟩:ByteArray)=Y:=⟨_,rfl⟩
 have hXd:Ku lang.data.toList a.data.toList=X.data.toList:=by rw[← hX]
 have hYd:Ku lang.data.toList b.data.toList=Y.data.toList:=by rw[← hY]
 have K1:=r02_Key_c lang a w ha va
 have K2:∀ w',_:=fun w'=>r02_Key_c lang b w' hb vb
 have hE:Sr.cmp lang.data.toList a.data.toList b.data.toList=if X.data.toList=Y.data.toList then Kv a.data.toList b.data.toList else Kv X.data.toList Y.data.toList:=by unfold Sr.cmp;rw[hXd,hYd]
 rw[hE]
 rw[hX]at K1
 rw[hY]at K2
 have HK1:=J K1
 have HK2:=J K2
 have tst:∀ p r:ByteArray,Op.bytesLess p.toList r.toList=Cp.ltB p.data.toList r.data.toList:=fun p r=>by rw[Go.Proofs.bytesLess_eq,AA,AA];rfl
 have teq:∀ p r:ByteArray,(p.toList == r.toList)=decide (p.data.toList=r.data.toList):=fun p r=>by rw[AA,AA,Bool.eq_iff_iff];simp
 have t0:=teq X Y
 by_cases h0:X.data.toList=Y.data.toList
 ·rw[if_pos h0]
  rw[decide_eq_true h0]at t0
  have t1:=tst a b
  have t2:=teq a b
  obtain⟨c,hc⟩:∃ c,Kv a.data.toList b.data.toList=c:=⟨_,rfl⟩
  rw[hc]
  unfold Kv at hc
  by_cases q1:Cp.ltB a.data.toList b.data.toList=true
  ·rw[if_pos q1]at hc
   rw[q1]at t1
   have HC:=J hc
   clear K1 K2 hE hX hY hXd hYd hc h0 tst teq q1
   go_enter NA,N5
   go_wp2_with (first
    |(go_at_call 186;((with_reducible refine (HK2.out _).mono ?_);rintro e w2 ⟨rfl,hb2⟩;have hb12:=A8 hb1 hb2))
    |(go_at_call 186;((with_reducible refine HK1.out.mono ?_);rintro e w1 ⟨rfl,hb1⟩)))
   go_ret
   exact⟨by rw[← HC.out];rfl,hb12⟩
  ·rw[if_neg q1]at hc
   rw[Bool.eq_false_iff.2 q1]at t1
   by_cases q2:a.data.toList=b.data.toList
   ·rw[if_pos q2]at hc
    rw[decide_eq_true q2]at t2
    have HC:=J hc
    clear K1 K2 hE hX hY hXd hYd hc h0 tst teq q1 q2
    go_enter NA,N5
    go_wp2_with (first
     |(go_at_call 186;((with_reducible refine (HK2.out _).mono ?_);rintro e w2 ⟨rfl,hb2⟩;have hb12:=A8 hb1 hb2))
     |(go_at_call 186;((with_reducible refine HK1.out.mono ?_);rintro e w1 ⟨rfl,hb1⟩)))
    go_ret
    exact⟨by rw[← HC.out];rfl,hb12⟩
   ·rw[if_neg q2]at hc
    rw[decide_eq_false q2]at t2
    have HC:=J hc
    clear K1 K2 hE hX hY hXd hYd hc h0 tst teq q1 q2
    go_enter NA,N5
    go_wp2_with (first
     |(go_at_call 186;((with_reducible refine (HK2.out _).mono ?_);rintro e w2 ⟨rfl,hb2⟩;have hb12:=A8 hb1 hb2))
     |(go_at_call 186;((with_reducible refine HK1.out.mono ?_);rintro e w1 ⟨rfl,hb1⟩)))
    go_ret
    exact⟨by rw[← HC.out];rfl,hb12⟩
 ·rw[if_neg h0]
  rw[decide_eq_false h0]at t0
  have t1:=tst X Y
  have t2:=teq X Y
  obtain⟨c,hc⟩:∃ c,Kv X.data.toList Y.data.toList=c:=⟨_,rfl⟩
  rw[hc]
  unfold Kv at hc
  by_cases q1:Cp.ltB X.data.toList Y.data.toList=true
  ·rw[if_pos q1]at hc
   rw[q1]at t1
   have HC:=J hc
   clear K1 K2 hE hX hY hXd hYd hc h0 tst teq q1
   go_enter NA,N5
   go_wp2_with (first
    |(go_at_call 186;((with_reducible refine (HK2.out _).mono ?_);rintro e w2 ⟨rfl,hb2⟩;have hb12:=A8 hb1 hb2))
    |(go_at_call 186;((with_reducible refine HK1.out.mono ?_);rintro e w1 ⟨rfl,hb1⟩)))
   go_ret
   exact⟨by rw[← HC.out];rfl,hb12⟩
  ·rw[if_neg q1]at hc
   rw[Bool.eq_false_iff.2 q1]at t1
   by_cases q2:X.data.toList=Y.data.toList
   ·rw[if_pos q2]at hc
    exact absurd q2 h0
   ·rw[if_neg q2]at hc
    rw[decide_eq_false q2]at t2
    have HC:=J hc
    clear K1 K2 hE hX hY hXd hYd hc h0 tst teq q1 q2
    go_enter NA,N5
    go_wp2_with (first
     |(go_at_call 186;((with_reducible refine (HK2.out _).mono ?_);rintro e w2 ⟨rfl,hb2⟩;have hb12:=A8 hb1 hb2))
     |(go_at_call 186;((with_reducible refine HK1.out.mono ?_);rintro e w1 ⟨rfl,hb1⟩)))
    go_ret
    exact⟨by rw[← HC.out];rfl,hb12⟩
end Go.Proofs.YtlakomilichhnaaGreatDoor
