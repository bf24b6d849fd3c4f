/- Parts. -/
import Derived.Test.YtlakomilichhnaaGreatDoorROl
namespace Go.Proofs.YtlakomilichhnaaGreatDoor
set_option maxHeartbeats 1600000
set_option maxRecDepth 100000
open Go.RowKit
open Go renaming Calls->Af,World->Ab,wpList_append_own->Cy
open IntKind renaming i64->Dr,wrap_i64->Lz
open Lib renaming hid->J
open List renaming drop_drop->BQ,drop_eq_nil_of_le->AS,length_append->Ag,length_nil->Bw,length_take->Az,map_append->AY
open Nat renaming zero_le->Am
open Proofs.Tryz renaming prog->A8,underlying26->BF
open Tx renaming cell_one_at->EU,extract_wid->IT,foldC->Ba,foldS->EO,foldStep->G1,foldT->Dv,rdec->Cv,sepW->GV,wid->EH,words->Bl
variable {P:Prop}
def Fo (lo hi:Int) (r:ByteArray):Prop:=∀ (n:Int) (w:Ab),lo<=n/\n<=hi->Af A8 246 #[.int .i64 n] w fun e w'=>e=.returned (.string r)/\w=w'
theorem fo (h:P:=by
  intro n w h;obtain ⟨m,hm⟩:∃ m,n - 32=m:=⟨_,rfl⟩;have hw:Dr.wrap (n - 32)=m:=by rw [Lz];omega
  (first | have t0:(65:Int)<=n:=by omega | have t0:n < 65:=oQ)
  (first | have t1:n<=90:=by omega | have t1:(90:Int) < n:=oQ)
  (first | have t2:(192:Int)<=n:=by omega | have t2:n < 192:=oQ)
  (first | have t3:n<=255:=by omega | have t3:(255:Int) < n:=oQ)
  (first | have t4:(n == (215:Int))=false:=by simp;omega | have t4:(n == (215:Int))=true:=by simp;omega)
  (first | have t5:(n == (247:Int))=false:=by simp;omega | have t5:(n == (247:Int))=true:=by simp;omega)
  (first | have t6:(n == (223:Int))=false:=by simp;omega | have t6:(n == (223:Int))=true:=by simp;omega)
  (first | have t7:(n == (255:Int))=false:=by simp;omega | have t7:(n == (255:Int))=true:=by simp;omega)
  (first | have t8:(224:Int)<=n:=by omega | have t8:n < 224:=oQ)
  (first | have t9:n<=197:=by omega | have t9:(197:Int) < n:=oQ)
  (first | have t10:(n == (198:Int))=false:=by simp;omega | have t10:(n == (198:Int))=true:=by simp;omega)
  (first | have t11:(n == (199:Int))=false:=by simp;omega | have t11:(n == (199:Int))=true:=by simp;omega)
  (first | have t12:n<=203:=by omega | have t12:(203:Int) < n:=oQ)
  (first | have t13:n<=207:=by omega | have t13:(207:Int) < n:=oQ)
  (first | have t14:(n == (208:Int))=false:=by simp;omega | have t14:(n == (208:Int))=true:=by simp;omega)
  (first | have t15:(n == (209:Int))=false:=by simp;omega | have t15:(n == (209:Int))=true:=by simp;omega)
  (first | have t16:n<=216:=by omega | have t16:(216:Int) < n:=oQ)
  (first | have t17:n<=220:=by omega | have t17:(220:Int) < n:=oQ)
  (first | have t18:(n == (221:Int))=false:=by simp;omega | have t18:(n == (221:Int))=true:=by simp;omega)
  (first | have t19:m<=197:=by omega | have t19:(197:Int) < m:=oQ)
  (first | have t20:(m == (198:Int))=false:=by simp;omega | have t20:(m == (198:Int))=true:=by simp;omega)
  (first | have t21:(m == (199:Int))=false:=by simp;omega | have t21:(m == (199:Int))=true:=by simp;omega)
  (first | have t22:m<=203:=by omega | have t22:(203:Int) < m:=oQ)
  (first | have t23:m<=207:=by omega | have t23:(207:Int) < m:=oQ)
  (first | have t24:(m == (208:Int))=false:=by simp;omega | have t24:(m == (208:Int))=true:=by simp;omega)
  (first | have t25:(m == (209:Int))=false:=by simp;omega | have t25:(m == (209:Int))=true:=by simp;omega)
  (first | have t26:m<=216:=by omega | have t26:(216:Int) < m:=oQ)
  (first | have t27:m<=220:=by omega | have t27:(220:Int) < m:=oQ)
  (first | have t28:(m == (221:Int))=false:=by simp;omega | have t28:(m == (221:Int))=true:=by simp;omega)
  clear h hm;go_enter Tryz.func246,Tryz.ntmps246;go_wp2;go_ret;exact ⟨rfl,rfl⟩):P:=h
theorem fold_0_c:Fo 0 64 ⟨#[]⟩:=fo
theorem fold_91_c:Fo 91 191 ⟨#[]⟩:=fo
theorem fold_256_c:Fo 256 1000000000 ⟨#[]⟩:=fo
theorem fold_215_c:Fo 215 215 ⟨#[]⟩:=fo
theorem fold_247_c:Fo 247 247 ⟨#[]⟩:=fo
theorem fold_223_c:Fo 223 223 ⟨#[115,115]⟩:=fo
theorem fold_255_c:Fo 255 255 ⟨#[121]⟩:=fo
theorem fold_192_c:Fo 192 197 ⟨#[97]⟩:=fo
theorem fold_198_c:Fo 198 198 ⟨#[97,101]⟩:=fo
theorem fold_199_c:Fo 199 199 ⟨#[99]⟩:=fo
theorem fold_200_c:Fo 200 203 ⟨#[101]⟩:=fo
theorem fold_204_c:Fo 204 207 ⟨#[105]⟩:=fo
theorem fold_208_c:Fo 208 208 ⟨#[100]⟩:=fo
theorem fold_209_c:Fo 209 209 ⟨#[110]⟩:=fo
theorem fold_210_c:Fo 210 214 ⟨#[111]⟩:=fo
theorem fold_216_c:Fo 216 216 ⟨#[111]⟩:=fo
theorem fold_217_c:Fo 217 220 ⟨#[117]⟩:=fo
theorem fold_221_c:Fo 221 221 ⟨#[121]⟩:=fo
theorem fold_222_c:Fo 222 222 ⟨#[116,104]⟩:=fo
theorem fold_224_c:Fo 224 229 ⟨#[97]⟩:=fo
theorem fold_230_c:Fo 230 230 ⟨#[97,101]⟩:=fo
theorem fold_231_c:Fo 231 231 ⟨#[99]⟩:=fo
theorem fold_232_c:Fo 232 235 ⟨#[101]⟩:=fo
theorem fold_236_c:Fo 236 239 ⟨#[105]⟩:=fo
theorem fold_240_c:Fo 240 240 ⟨#[100]⟩:=fo
theorem fold_241_c:Fo 241 241 ⟨#[110]⟩:=fo
theorem fold_242_c:Fo 242 246 ⟨#[111]⟩:=fo
theorem fold_248_c:Fo 248 248 ⟨#[111]⟩:=fo
theorem fold_249_c:Fo 249 252 ⟨#[117]⟩:=fo
theorem fold_253_c:Fo 253 253 ⟨#[121]⟩:=fo
theorem fold_254_c:Fo 254 254 ⟨#[116,104]⟩:=fo
theorem Tx.foldC_up:∀ c,c<26->((⟨#[97,98,99,100,101,102,103,104,105,106,107,108,109,110,111,112,113,114,115,116,117,118,119,120,121,122]⟩:ByteArray).extract c (c+1))=⟨(Ba (c+65)).toArray⟩:=by decide +kernel
theorem fold_up_c (k:Nat) (n:Int) (w:Ab) (hk:k<26) (hn:n=((k+65:Nat):Int)) :
  Af A8 246 #[.int .i64 n] w fun e w'=>e=.returned (.string ⟨(Ba (k+65)).toArray⟩)/\w=w':=by
 have HQ:=J (Tx.foldC_up k hk);have g1:(65:Int)<=n:=oQ;have g2:n<=90:=oQ;have g3:Dr.wrap (n - 65)=(k:Int):=by rw[Lz];omega
 have g4:Dr.wrap (n - 64)=((k+1:Nat):Int):=by rw[Lz];omega
 have g5:(k:Int)<=((k+1:Nat):Int):=oQ;have g6:((k+1:Nat):Int)<=26:=oQ;clear hn;go_enter Tryz.func246,Tryz.ntmps246;go_wp2;go_ret;exact⟨Tx.rets HQ.out,rfl⟩
theorem r01_fold_c (c:Nat) (w:Ab) (hc:c<=1000000000) :
  Af A8 246 #[.int .i64 c] w fun e w'=>e=.returned (.string ⟨(Ba c).toArray⟩)/\w=w':=by
 by_cases h:c<=64
 ·rw[show Ba c=[] from (show ∀ x,x<256->x<=64->Ba x=[] by decide +kernel) c oQ oQ];exact fold_0_c c w oQ
 by_cases h:91<=c/\c<=191
 ·rw[show Ba c=[] from (show ∀ x,x<256->91<=x->x<=191->Ba x=[] by decide +kernel) c oQ oQ oQ];exact fold_91_c c w oQ
 by_cases h:256<=c
 ·rw[show Ba c=[] from Tx.foldC_high oQ];exact fold_256_c c w oQ
 by_cases h:215<=c/\c<=215
 ·rw[show Ba c=[] from (show ∀ x,x<256->215<=x->x<=215->Ba x=[] by decide +kernel) c oQ oQ oQ];exact fold_215_c c w oQ
 by_cases h:247<=c/\c<=247
 ·rw[show Ba c=[] from (show ∀ x,x<256->247<=x->x<=247->Ba x=[] by decide +kernel) c oQ oQ oQ];exact fold_247_c c w oQ
 by_cases h:223<=c/\c<=223
 ·rw[show Ba c=[115,115] from (show ∀ x,x<256->223<=x->x<=223->Ba x=[115,115] by decide +kernel) c oQ oQ oQ];exact fold_223_c c w oQ
 by_cases h:255<=c/\c<=255
 ·rw[show Ba c=[121] from (show ∀ x,x<256->255<=x->x<=255->Ba x=[121] by decide +kernel) c oQ oQ oQ];exact fold_255_c c w oQ
 by_cases h:192<=c/\c<=197
 ·rw[show Ba c=[97] from (show ∀ x,x<256->192<=x->x<=197->Ba x=[97] by decide +kernel) c oQ oQ oQ];exact fold_192_c c w oQ
 by_cases h:198<=c/\c<=198
 ·rw[show Ba c=[97,101] from (show ∀ x,x<256->198<=x->x<=198->Ba x=[97,101] by decide +kernel) c oQ oQ oQ];exact fold_198_c c w oQ
 by_cases h:199<=c/\c<=199
 ·rw[show Ba c=[99] from (show ∀ x,x<256->199<=x->x<=199->Ba x=[99] by decide +kernel) c oQ oQ oQ];exact fold_199_c c w oQ
 by_cases h:200<=c/\c<=203
 ·rw[show Ba c=[101] from (show ∀ x,x<256->200<=x->x<=203->Ba x=[101] by decide +kernel) c oQ oQ oQ];exact fold_200_c c w oQ
 by_cases h:204<=c/\c<=207
 ·rw[show Ba c=[105] from (show ∀ x,x<256->204<=x->x<=207->Ba x=[105] by decide +kernel) c oQ oQ oQ];exact fold_204_c c w oQ
 by_cases h:208<=c/\c<=208
 ·rw[show Ba c=[100] from (show ∀ x,x<256->208<=x->x<=208->Ba x=[100] by decide +kernel) c oQ oQ oQ];exact fold_208_c c w oQ
 by_cases h:209<=c/\c<=209
 ·rw[show Ba c=[110] from (show ∀ x,x<256->209<=x->x<=209->Ba x=[110] by decide +kernel) c oQ oQ oQ];exact fold_209_c c w oQ
 by_cases h:210<=c/\c<=214
 ·rw[show Ba c=[111] from (show ∀ x,x<256->210<=x->x<=214->Ba x=[111] by decide +kernel) c oQ oQ oQ];exact fold_210_c c w oQ
 by_cases h:216<=c/\c<=216
 ·rw[show Ba c=[111] from (show ∀ x,x<256->216<=x->x<=216->Ba x=[111] by decide +kernel) c oQ oQ oQ];exact fold_216_c c w oQ
 by_cases h:217<=c/\c<=220
 ·rw[show Ba c=[117] from (show ∀ x,x<256->217<=x->x<=220->Ba x=[117] by decide +kernel) c oQ oQ oQ];exact fold_217_c c w oQ
 by_cases h:221<=c/\c<=221
 ·rw[show Ba c=[121] from (show ∀ x,x<256->221<=x->x<=221->Ba x=[121] by decide +kernel) c oQ oQ oQ];exact fold_221_c c w oQ
 by_cases h:222<=c/\c<=222
 ·rw[show Ba c=[116,104] from (show ∀ x,x<256->222<=x->x<=222->Ba x=[116,104] by decide +kernel) c oQ oQ oQ];exact fold_222_c c w oQ
 by_cases h:224<=c/\c<=229
 ·rw[show Ba c=[97] from (show ∀ x,x<256->224<=x->x<=229->Ba x=[97] by decide +kernel) c oQ oQ oQ];exact fold_224_c c w oQ
 by_cases h:230<=c/\c<=230
 ·rw[show Ba c=[97,101] from (show ∀ x,x<256->230<=x->x<=230->Ba x=[97,101] by decide +kernel) c oQ oQ oQ];exact fold_230_c c w oQ
 by_cases h:231<=c/\c<=231
 ·rw[show Ba c=[99] from (show ∀ x,x<256->231<=x->x<=231->Ba x=[99] by decide +kernel) c oQ oQ oQ];exact fold_231_c c w oQ
 by_cases h:232<=c/\c<=235
 ·rw[show Ba c=[101] from (show ∀ x,x<256->232<=x->x<=235->Ba x=[101] by decide +kernel) c oQ oQ oQ];exact fold_232_c c w oQ
 by_cases h:236<=c/\c<=239
 ·rw[show Ba c=[105] from (show ∀ x,x<256->236<=x->x<=239->Ba x=[105] by decide +kernel) c oQ oQ oQ];exact fold_236_c c w oQ
 by_cases h:240<=c/\c<=240
 ·rw[show Ba c=[100] from (show ∀ x,x<256->240<=x->x<=240->Ba x=[100] by decide +kernel) c oQ oQ oQ];exact fold_240_c c w oQ
 by_cases h:241<=c/\c<=241
 ·rw[show Ba c=[110] from (show ∀ x,x<256->241<=x->x<=241->Ba x=[110] by decide +kernel) c oQ oQ oQ];exact fold_241_c c w oQ
 by_cases h:242<=c/\c<=246
 ·rw[show Ba c=[111] from (show ∀ x,x<256->242<=x->x<=246->Ba x=[111] by decide +kernel) c oQ oQ oQ];exact fold_242_c c w oQ
 by_cases h:248<=c/\c<=248
 ·rw[show Ba c=[111] from (show ∀ x,x<256->248<=x->x<=248->Ba x=[111] by decide +kernel) c oQ oQ oQ];exact fold_248_c c w oQ
 by_cases h:249<=c/\c<=252
 ·rw[show Ba c=[117] from (show ∀ x,x<256->249<=x->x<=252->Ba x=[117] by decide +kernel) c oQ oQ oQ];exact fold_249_c c w oQ
 by_cases h:253<=c/\c<=253
 ·rw[show Ba c=[121] from (show ∀ x,x<256->253<=x->x<=253->Ba x=[121] by decide +kernel) c oQ oQ oQ];exact fold_253_c c w oQ
 by_cases h:254<=c/\c<=254
 ·rw[show Ba c=[116,104] from (show ∀ x,x<256->254<=x->x<=254->Ba x=[116,104] by decide +kernel) c oQ oQ oQ];exact fold_254_c c w oQ
 obtain⟨k,rfl⟩:∃ k,c=k+65:=⟨c - 65,oQ⟩;exact fold_up_c k _ w oQ rfl
theorem y1l (h:P:=by
 subst this;clear hb;go_wp2;go_ret;exact⟨Tx.retb qB,rfl⟩):P:=h
theorem r01_letter_c (c:Nat) (w:Ab) :
  Af A8 270 #[.int .i64 c] w fun e w'=>e=.returned (.bool (Tx.letter c))/\w=w':=by
 obtain⟨b,hb⟩:∃ b,Tx.letter c=b:=⟨_,rfl⟩;rw[hb];unfold Tx.letter at hb;go_enter Tryz.func270,Tryz.ntmps270;rcases (show c<48\/(48<=c/\c<=57)\/(57<c/\c<97)\/(97<=c/\c<=122)\/(122<c/\c<256)\/256<=c by omega) with g | ⟨g1,g2⟩ | ⟨g1,g2⟩ | ⟨g1,g2⟩ | ⟨g1,g2⟩ | g
 ·have:b=false:=by rw[<- hb];simp;omega
  exact y1l
 ·have:b=true:=by rw[<- hb];simp;omega
  have g3:c<97:=oQ;exact y1l
 ·have:b=false:=by rw[<- hb];simp;omega
  have g3:=zrr;have g4:c<256:=oQ;exact y1l
 ·have:b=true:=by rw[<- hb];simp;omega
  exact y1l
 ·have:b=false:=by rw[<- hb];simp;omega
  have g3:97<=c:=oQ;have g4:=zrr;have g5:57<c:=oQ;exact y1l
 ·have:b=true:=by rw[<- hb];simp;omega
  have g3:97<=c:=oQ;have g4:=zrr;have g5:57<c:=oQ;have g6:122<c:=oQ;exact y1l
theorem Tx.fold_round {s:ByteArray}{k:Nat}{out out':List UInt8} (hlt:k<s.size) (hol:out.length<=2*k)
  (hv:Dv G1 out (s.data.toList.drop k)=EO s.data.toList)
  (h:out++Tx.foldP ((s.data.toList.drop k).take (EH (s.data.toList.drop k))) (Cv (s.data.toList.drop k)).1=out') :
  out'.length<=2*(k+EH (s.data.toList.drop k))/\Dv G1 out' (s.data.toList.drop (k+EH (s.data.toList.drop k)))=EO s.data.toList:=by
 have hw:=Tx.wid_pos (s.data.toList.drop k);constructor
 ·rw[<- h,Ag]
  have:(Tx.foldP ((s.data.toList.drop k).take (EH (s.data.toList.drop k))) (Cv (s.data.toList.drop k)).1).length<=2*EH (s.data.toList.drop k):=by
   unfold Tx.foldP;split
   ·rw[Az];omega
   ·have:=Tx.foldC_len (Cv (s.data.toList.drop k)).1;omega
  omega
 ·rw[<- hv,Tx.foldT_step G1 out (Tx.drop_ne iJ),show G1 out ((s.data.toList.drop k).take (EH (s.data.toList.drop k))) (Cv (s.data.toList.drop k)).1=out' from h,BQ]
theorem r01_Fold_c (s:ByteArray) (w:Ab) (hs:s.size<=1000000000) :
  Af A8 188 #[.string s] w fun e w'=>e=.returned (.string ⟨(EO s.data.toList).toArray⟩)/\Below w.heap.size w w':=by
 go_enter Tryz.func188,Tryz.ntmps188;go_wp2;go_loopw [3,4] (fun o i wr=>∃ (k:Nat) (out:List UInt8),k<=s.size/\i=.int .i64 k/\o=.string ⟨out.toArray⟩/\out.length<=2*k/\Hid (Dv G1 out (s.data.toList.drop k)=EO s.data.toList)/\Below w.heap.size w wr) (fun _ i _=>s.size - (intOf i).toNat)
 case atStart=>exact⟨0,[],Am _,rfl,rfl,Am _,J aD,Below.refl _ _⟩
 case round =>
  obtain⟨k,out,hk,rfl,rfl,hol,hv,hb⟩:=hrel;by_cases hlt:k<s.size
  ·obtain⟨hle,h3,h4,h5,h6⟩:=Tx.rdec_fits hlt;have hr:=Tx.rdec_rune (s.data.toList.drop k);have hF:∃ f,Ba (Cv (s.data.toList.drop k)).1=f:=⟨_,rfl⟩;obtain⟨f,hf⟩:=hF;have HF:=J hf;clear hf;by_cases hfe:f=[]
   ·subst hfe;have hs1:=Tx.fold_round (out':=out++(s.data.toList.drop k).take (EH (s.data.toList.drop k))) hlt hol hv.out (by unfold Tx.foldP;rw[HF.out,if_pos rfl]);have H1:=J hs1;clear hs1
    go_wp2_with (first
     |(go_at_call 203;refine (r01_decode_c s k _ hlt oQ).mono ?_;rintro e w1 ⟨rfl,hb1⟩)
     |(go_at_call 245;refine (r01_size_c s k _ hlt oQ).mono ?_;rintro e w2 ⟨rfl,hb2⟩)
     |(go_at_call 246;refine (r01_fold_c _ _ oQ).mono ?_;rintro e w3 ⟨rfl,rfl⟩;rw[HF.out]))
    go_roundw
    case rel=>exact⟨k+EH (s.data.toList.drop k),_,h5,by go_num,by rw[Tx.bcat,IT],H1.out.1,J H1.out.2,(hb.trans (hb1.mono hb.size)).trans (hb2.mono eQ)⟩
    case measure=>simp[intOf];omega
   ·have hs1:=Tx.fold_round (out':=out++f) hlt hol hv.out (by unfold Tx.foldP;rw[HF.out,if_neg hfe]);have H1:=J hs1;clear hs1;have hfl:f.length<=2:=by rw[<- HF.out];exact Tx.foldC_len _
    have hfi:f.isEmpty=false:=by cases f <;> simp_all
    go_wp2_with (first
     |(go_at_call 203;refine (r01_decode_c s k _ hlt oQ).mono ?_;rintro e w1 ⟨rfl,hb1⟩)
     |(go_at_call 245;refine (r01_size_c s k _ hlt oQ).mono ?_;rintro e w2 ⟨rfl,hb2⟩)
     |(go_at_call 246;refine (r01_fold_c _ _ oQ).mono ?_;rintro e w3 ⟨rfl,rfl⟩;rw[HF.out]))
    go_roundw
    case rel=>exact⟨k+EH (s.data.toList.drop k),_,h5,by go_num,by rw[Tx.bcat],H1.out.1,J H1.out.2,(hb.trans (hb1.mono hb.size)).trans (hb2.mono eQ)⟩
    case measure=>simp[intOf];omega
  ·go_wp2;go_ret;have:s.data.toList.drop k=[]:=AS aK;exact⟨Tx.rets (by rw[<- hv.out,this,Tx.foldT_nil]),hb⟩
namespace Tx
theorem words_round {l:List UInt8}{k:Nat}{st st':List (List UInt8) × List UInt8} (hlt:k<l.length) (hn:st.2.length<=k) (hc:st.1.length<=k)
  (hv:wEnd (foldT (wStep sepW) st (l.drop k))=fieldsT sepW l)
  (h:wStep sepW st ((l.drop k).take (wid (l.drop k))) (rdec (l.drop k)).1=st') :
  st'.2.length<=k+wid (l.drop k)/\st'.1.length<=k+wid (l.drop k)/\wEnd (foldT (wStep sepW) st' (l.drop (k+wid (l.drop k))))=fieldsT sepW l:=by
 have hw:=wid_pos (l.drop k);have htl:((l.drop k).take (wid (l.drop k))).length<=wid (l.drop k):=by rw[Az];omega
 refine⟨?_,?_,?_⟩
 ·rw[<- h];unfold wStep
  repeat' split
  all_goals first | omega | (simp only[Ag,Bw];omega)
 ·rw[<- h];unfold wStep
  repeat' split
  all_goals first | omega | (simp only[Ag,List.length_cons,Bw];omega)
 ·rw[<- hv,foldT_step (wStep sepW) st (drop_ne hlt),h,BQ]
theorem own_later {B:Nat}{w w':Ab}{e size n:Nat}{v:Value}{xs:List Value} (h:Below w.heap.size w w') (ho:w.ownsRow B e size v n xs):w'.ownsRow B e size v n xs:=by
 refine⟨ho.1,?_⟩;rcases ho.2 with h1 | ⟨k,cap,cur,h1,h2,h3,h4⟩
 ·exact .inl h1
 ·exact .inr ⟨k,cap,cur,h1,h2,(h.block k (Array.getElem?_eq_some_iff.1 h3).1).trans h3,h4⟩
theorem foldS_len2 (l:List UInt8):(foldS l).length<=2*l.length:=by
 have:∀ (n:Nat) (l out:List UInt8),l.length<=n->(foldT foldStep out l).length<=out.length+2*l.length:=by
  intro n
  induction n with
  | zero =>
   intro l out h;have:=List.eq_nil_of_length_eq_zero (Nat.le_zero.1 h);subst this;rw[foldT_nil];omega
  | succ n ih =>
   intro l out h;by_cases hne:l=[]
   ·subst hne;rw[foldT_nil];omega
   ·rw[foldT_step foldStep out hne];have hw:=wid_pos l;have hwl:=wid_le hne;have h1:=ih (l.drop (wid l)) (foldStep out (l.take (wid l)) (rdec l).1) aX
    have h2:(foldStep out (l.take (wid l)) (rdec l).1).length<=out.length+2*wid l:=by
     unfold foldStep foldP;rw[Ag];split
     ·rw[Az];omega
     ·have:=foldC_len (rdec l).1;omega
    rw[List.length_drop]at h1;omega
 have:=this l.length l [] (Nat.le_refl _);simpa [foldS] using this
abbrev sv (x:List UInt8):Value:=.string ⟨x.toArray⟩
end Tx
theorem r01_Words_c (s:ByteArray) (w:Ab) (hs:s.size<=400000000) :
  Af A8 212 #[.string s] w fun e w'=>∃ v,e=.returned v/\w'.ownsRow w.heap.size 9 1 v (Bl s.data.toList).length ((Bl s.data.toList).map Tx.sv)/\Below w.heap.size w w':=by
 obtain⟨i0,hi0,hz0,hz1,hz2⟩:=zih;obtain⟨f,hf⟩:∃ f:ByteArray,(⟨(EO s.data.toList).toArray⟩:ByteArray)=f:=⟨_,rfl⟩;have hfw:Bl s.data.toList=Tx.fieldsT GV f.data.toList:=by rw[<- hf];rfl
 have hfl:f.size<=2*s.size+2:=by
  rw[<- hf,Tx.size_mk];have:=Tx.foldS_len2 s.data.toList;rw[<- Lib.size_eq]at this;omega
 have HF:=J hf;clear hf;have HW:=J hfw;clear hfw;have HI:=J hi0;clear hi0;go_enter Tryz.func212,Tryz.ntmps212;go_wp2_with (go_at_call 188;refine (r01_Fold_c s _ oQ).mono ?_;rintro e w0 ⟨rfl,hb0⟩;rw[HF.out]);go_loopw [3,4,5] (fun o d i wr=>∃ (k:Nat) (out:List (List UInt8)) (wd:List UInt8),k<=f.size/\i=.int .i64 k/\d=.string ⟨wd.toArray⟩/\wd.length<=k/\out.length<=k/\wr.ownsRow w.heap.size 9 1 o out.length (out.map Tx.sv)/\Hid (Tx.wEnd (Dv (Tx.wStep GV) (out,wd) (f.data.toList.drop k))=Tx.fieldsT GV f.data.toList)/\Below w.heap.size w wr) (fun _ _ i _=>f.size - (intOf i).toNat)
 case atStart=>exact⟨0,[],[],Am _,rfl,rfl,Am _,Am _,World.ownsRow_nil _ _ _ _,J aD,hb0⟩
 case round =>
  obtain⟨k,out,wd,hk,rfl,rfl,hwl,hol,hown,hv,hb⟩:=hrel;by_cases hlt:k<f.size
  ·obtain⟨hle,h3,h4,h5,h6⟩:=Tx.rdec_fits hlt;have hlt2:k<f.data.toList.length:=by rw[<- Lib.size_eq];exact hlt
   obtain⟨b,hbl⟩:∃ b,Tx.letter (Cv (f.data.toList.drop k)).1=b:=⟨_,rfl⟩;have HB:=J hbl;clear hbl;cases b with
   | true =>
    have hs1:=Tx.words_round (st':=(out,wd++(f.data.toList.drop k).take (EH (f.data.toList.drop k)))) hlt2 hwl hol hv.out zsm;have H1:=J hs1;clear hs1 hlt2
    go_wp2_with (first
     |(go_at_call 203;refine (r01_decode_c f k _ hlt oQ).mono ?_;rintro e w1 ⟨rfl,hb1⟩)
     |(go_at_call 245;refine (r01_size_c f k _ hlt oQ).mono ?_;rintro e w2 ⟨rfl,hb2⟩)
     |(go_at_call 270;refine (r01_letter_c _ _).mono ?_;rintro e w3 ⟨rfl,rfl⟩;rw[HB.out]))
    go_roundw
    case rel=>exact⟨k+EH (f.data.toList.drop k),out,_,h5,by go_num,by rw[Tx.bcat,IT],H1.out.1,H1.out.2.1,Tx.own_later hb2 (Tx.own_later hb1 hown),J H1.out.2.2,(hb.trans (hb1.mono hb.size)).trans (hb2.mono eQ)⟩
    case measure=>simp[intOf];omega
   | false =>
    by_cases hwd:wd=[]
    ·subst hwd;have hs1:=Tx.words_round (st':=(out,[])) hlt2 hwl hol hv.out zsm;have H1:=J hs1;clear hs1 hlt2
     go_wp2_with (first
      |(go_at_call 203;refine (r01_decode_c f k _ hlt oQ).mono ?_;rintro e w1 ⟨rfl,hb1⟩)
      |(go_at_call 245;refine (r01_size_c f k _ hlt oQ).mono ?_;rintro e w2 ⟨rfl,hb2⟩)
      |(go_at_call 270;refine (r01_letter_c _ _).mono ?_;rintro e w3 ⟨rfl,rfl⟩;rw[HB.out]))
     go_roundw
     case rel=>exact⟨k+EH (f.data.toList.drop k),out,[],h5,by go_num,rfl,Am _,H1.out.2.1,Tx.own_later hb2 (Tx.own_later hb1 hown),J H1.out.2.2,(hb.trans (hb1.mono hb.size)).trans (hb2.mono eQ)⟩
     case measure=>simp[intOf];omega
    ·have hs1:=Tx.words_round (st':=(out++[wd],[])) hlt2 hwl hol hv.out (by unfold Tx.wStep GV;rw[HB.out];simp[hwd]);have H1:=J hs1;clear hs1 hlt2;have hwi:wd.isEmpty=false:=by cases wd <;> simp_all
     clear hwd
     go_wp2_with (first
      |(go_at_call 203;refine (r01_decode_c f k _ hlt oQ).mono ?_;rintro e w1 ⟨rfl,hb1⟩)
      |(go_at_call 245;refine (r01_size_c f k _ hlt oQ).mono ?_;rintro e w2 ⟨rfl,hb2⟩)
      |(go_at_call 270;refine (r01_letter_c _ _).mono ?_;rintro e w3 ⟨rfl,rfl⟩;rw[HB.out];have hown2:=Tx.own_later hb2 (Tx.own_later hb1 hown);have hs2:=hb1.size;have hs3:=hb2.size)
      |(at_builtin;go_must (refine Cy _ rfl _ _ 26 rfl w.heap.size 9 i0 (.string ⟨#[]⟩) 1 16 BF HI.out hz0 hz1 hz2 rfl oX _ out.length _ rfl (hown2.alloc _) ⟨_,0,none⟩ 1 1 [Tx.sv wd] rfl rfl (EU _ _ oY _ _) oG oK oQ yK ?_);intro v' w4 hown4 hg4 hnil4))
     go_roundw
     case rel=>exact⟨k+EH (f.data.toList.drop k),out++[wd],[],h5,by go_num,rfl,Am _,H1.out.2.1,by rw[Ag,AY];exact hown4,J H1.out.2.2,((hb.trans (hb1.mono hb.size)).trans (hb2.mono (by have:=hb.size;omega))).trans (((Tx.newb _ _).mono (by have:=hb.size;omega)).grown hg4 yK (fun j hj=>(hown2.lt j hj).1))⟩
     case measure=>simp[intOf];omega
  ·have hd:f.data.toList.drop k=[]:=AS aK;rw[hd,Tx.foldT_nil]at hv;by_cases hwd:wd=[]
   ·subst hwd;have hE:out=Bl s.data.toList:=by rw[HW.out,<- hv.out];rfl
    go_wp2;go_ret;rw[<- hE];exact⟨_,rfl,hown,hb⟩
   ·have hE:out++[wd]=Bl s.data.toList:=by rw[HW.out,<- hv.out];unfold Tx.wEnd;rw[if_neg hwd]
    have HE:=J hE;have hwi:wd.isEmpty=false:=by cases wd <;> simp_all
    clear hwd hE hd;go_wp2_with (at_builtin;go_must (refine Cy _ rfl _ _ 26 rfl w.heap.size 9 i0 (.string ⟨#[]⟩) 1 16 BF HI.out hz0 hz1 hz2 rfl oX _ out.length _ rfl (hown.alloc _) ⟨_,0,none⟩ 1 1 [Tx.sv wd] rfl rfl (EU _ _ oY _ _) oG oK oQ yK ?_);intro v' w4 hown4 hg4 hnil4);go_ret;rw[<- HE.out,Ag,AY];exact⟨_,rfl,hown4,hb.trans (((Tx.newb _ _).mono hb.size).grown hg4 yK (fun j hj=>(hown.lt j hj).1))⟩
end Go.Proofs.YtlakomilichhnaaGreatDoor
