/- Parts. -/
import Derived.Test.YtlakomilichhnaaGreatDoorRShelf
import Derived.Test.YtlakomilichhnaaGreatDoorROt
import Derived.Deep.AppendLies
namespace Go.Proofs.YtlakomilichhnaaGreatDoor
set_option maxHeartbeats 1600000
set_option maxRecDepth 100000
open Go.RowKit
open Builtin renaming append_->LX
open Ending renaming returned->Fu
open Go renaming Addr->Aq,Calls->Af,TypeId->Bo,Value->Ak,World->Ab,cell_later->A4,maxLen->Ap
open Lib renaming OthersKept->Kw,atoiAll->L7,byteCells->Es,decFrom->L6,goFieldsP->Gm,hid->J,size_eq->Ao
open List renaming drop_drop->BQ,drop_eq_nil_of_le->AS,eq_nil_of_length_eq_zero->Ar,flatMap_cons->CU,getElem?_eq_getElem->Ai,getElem?_eq_some_iff->Av,getElem?_map->AP,head?_eq_getElem?->L4,length_append->Ag,length_cons->AH,length_drop->Ay,length_map->Ax,length_nil->Bw,length_take->Az
open Nat renaming le_refl->Ad,le_trans->Au,lt_of_lt_of_le->AN,succ_mul->Gc,zero_add->Ct,zero_le->Am
open Option renaming none->A0,some->A3
open Proofs.Tryz renaming prog->A8
open RowKit renaming Below->Aa
open RowKit.Below renaming refl->Ah
open Tx renaming clean->Je,cleanStep->IS,rdec->Cv,valid->AE,valid_step->Ld,wid->EH
open Value renaming string->AZ
open _root_.Array renaming getElem?_eq_some_iff->AA
variable {P:Prop}
namespace Tx
theorem ret1 {k:IntKind}{a b:Int} (h:a=b):Fu (.int k a)=.returned (.int k b):=by rw[h]
theorem retb {a b:Bool} (h:a=b):Fu (.bool a)=.returned (.bool b):=by rw[h]
theorem rets {a b:ByteArray} (h:a=b):Fu (.string a)=.returned (.string b):=by rw[h]
theorem drop_ne {l:List UInt8}{k:Nat} (h:k<l.length):l.drop k≠[]:=by
 intro h0;have:=congrArg List.length h0;rw[Ay]at this;simp at this;omega
theorem bcat (l:List UInt8) (y:ByteArray):(⟨l.toArray⟩:ByteArray)++y=⟨(l++y.data.toList).toArray⟩:=by
 apply ByteArray.ext;simp
theorem extract_wid (s:ByteArray) (k n:Nat):(s.extract k (k+n)).data.toList=(s.data.toList.drop k).take n:=by
 rw[Lib.extract_data,Nat.add_sub_cancel_left]
theorem clean_round {s:ByteArray}{k:Nat}{out out':List UInt8}{gap gap':Bool} (hlt:k<s.size) (hol:out.length<=2*k)
  (hv:(foldT cleanStep (out,gap) (s.data.toList.drop k)).1=clean s.data.toList)
  (h:cleanStep (out,gap) ((s.data.toList.drop k).take (wid (s.data.toList.drop k))) (rdec (s.data.toList.drop k)).1=(out',gap')) :
  out'.length<=2*(k+wid (s.data.toList.drop k))/\(foldT cleanStep (out',gap') (s.data.toList.drop (k+wid (s.data.toList.drop k)))).1=clean s.data.toList:=by
 have hw:=wid_pos (s.data.toList.drop k);constructor
 ·have e:out'=(cleanStep (out,gap) ((s.data.toList.drop k).take (wid (s.data.toList.drop k))) (rdec (s.data.toList.drop k)).1).1:=by rw[h]
  rw[e];unfold cleanStep
  repeat' split
  all_goals simp only[Ag,Az,AH,Bw]
  all_goals omega
 ·rw[<- hv,foldT_step cleanStep (out,gap) (drop_ne iJ),h,BQ]
theorem rdec_fits {s:ByteArray}{k:Nat} (h:k<s.size):k+(rdec (s.data.toList.drop k)).2<=s.size/\(rdec (s.data.toList.drop k)).2<=3/\1<=wid (s.data.toList.drop k)/\k+wid (s.data.toList.drop k)<=s.size/\wid (s.data.toList.drop k)<=3:=by
 have h1:=rdec_le (drop_ne iW:s.data.toList.drop k≠[]);have h2:=wid_le (drop_ne iW:s.data.toList.drop k≠[]);have h3:=rdec_width3 (s.data.toList.drop k);rw[Ay,<- Ao]at h1 h2;refine⟨oQ,h3,wid_pos _,oQ,?_⟩;unfold wid;omega
end Tx
theorem r01_size_c (s:ByteArray) (i:Nat) (w:Ab) (hi:i<s.size) (hs:s.size<=9223372036854775000) :
  Af A8 245 #[.string s,.int .i64 i] w fun e w'=>e=.returned (.int .i64 (EH (s.data.toList.drop i)))/\Aa w.heap.size w w':=by
 go_enter Tryz.func245,Tryz.ntmps245;go_wp2_with (go_at_call 203;refine (r01_decode_c s i _ hi hs).mono ?_;rintro e w1 ⟨rfl,hb⟩)
 all_goals
  go_ret;exact⟨Tx.ret1 (by unfold EH;omega),hb⟩
theorem r01_blank_c (c:Nat) (w:Ab) :
  Af A8 247 #[.int .i64 c] w fun e w'=>e=.returned (.bool (Tx.blank c))/\w=w':=by
 go_enter Tryz.func247,Tryz.ntmps247;go_wp2
 ·go_ret;rename_i h;have h':c=32:=oQ;exact⟨Tx.retb (by subst h';rfl),rfl⟩
 ·go_ret;rename_i h;have e1:=zls;have e2:=zlc;exact⟨Tx.retb (by rw[e1,e2];rfl),rfl⟩
theorem r01_Valid_c (s:ByteArray) (w:Ab) (hs:s.size<=9223372036854775000) :
  Af A8 122 #[.string s] w fun e w'=>e=.returned (.bool (AE s.data.toList))/\Aa w.heap.size w w':=by
 go_enter Tryz.func122,Tryz.ntmps122;go_wp2;go_loopw [3] (fun i wr=>∃ k:Nat,k<=s.size/\i=.int .i64 k/\Hid (AE (s.data.toList.drop k)=AE s.data.toList)/\Aa w.heap.size w wr) (fun i _=>s.size - (intOf i).toNat)
 case atStart=>exact⟨0,Am _,rfl,J iG,Ah _ _⟩
 case round =>
  obtain⟨k,hk,rfl,hv,hb⟩:=hrel;by_cases hlt:k<s.size
  ·obtain⟨hle,_,_,_,_⟩:=Tx.rdec_fits hlt;have hne:=zjw;have HN:=J hne;clear hne;go_wp2_with (go_at_call 203;refine (r01_decode_c s k _ hlt hs).mono ?_;rintro e w1 ⟨rfl,hb1⟩)
   ·go_ret
    have hz:(Cv (s.data.toList.drop k)).2=0:=by
     have h:=‹((Cv (s.data.toList.drop k)).2:Int) == 0›;simpa using h
    exact⟨Tx.retb (by rw[<- hv.out,Ld HN.out,if_pos hz]),hb.trans (hb1.mono hb.size)⟩
   ·have hz:(Cv (s.data.toList.drop k)).2≠0:=by
     have h:(((Cv (s.data.toList.drop k)).2:Int) == 0)=false:=oB;simpa using h
    go_roundw
    case rel=>exact⟨k+(Cv (s.data.toList.drop k)).2,oQ,by go_num,J (by rw[<- hv.out,Ld HN.out,if_neg hz,BQ]),hb.trans (hb1.mono hb.size)⟩
    case measure=>simp[intOf];omega
  ·go_wp2;go_ret;have:s.data.toList.drop k=[]:=AS aK;exact⟨Tx.retb (by rw[<- hv.out,this];rfl),hb⟩
theorem yuv (h:P:=by
 go_roundw
 case rel=>exact⟨k+EH (s.data.toList.drop k),_,false,h5,by go_num,by rw[Tx.bcat,Tx.extract_wid],rfl,hs1.1,J hs1.2,(hb.trans (hb1.mono hb.size)).trans (hb2.mono eQ)⟩
 case measure=>simp[intOf];omega):P:=h
theorem r01_Clean_c (s:ByteArray) (w:Ab) (hs:s.size<=1000000000000) :
  Af A8 190 #[.string s] w fun e w'=>e=.returned (.string ⟨(Je s.data.toList).toArray⟩)/\Aa w.heap.size w w':=by
 go_enter Tryz.func190,Tryz.ntmps190;go_wp2;go_loopw [3,4,5] (fun o g i wr=>∃ (k:Nat) (out:List UInt8) (gap:Bool),k<=s.size/\i=.int .i64 k/\o=.string ⟨out.toArray⟩/\g=.bool gap/\out.length<=2*k/\Hid ((Tx.foldT IS (out,gap) (s.data.toList.drop k)).1=Je s.data.toList)/\Aa w.heap.size w wr) (fun _ _ i _=>s.size - (intOf i).toNat)
 case atStart=>exact⟨0,[],false,Am _,rfl,rfl,rfl,Am _,J aD,Ah _ _⟩
 case round =>
  obtain⟨k,out,gap,hk,rfl,rfl,rfl,hol,hv,hb⟩:=hrel;by_cases hlt:k<s.size
  ·obtain⟨hle,h3,h4,h5,h6⟩:=Tx.rdec_fits hlt;have hne:=zjw;have HN:=J hne;clear hne;have hbl:∃ b,Tx.blank (Cv (s.data.toList.drop k)).1=b:=⟨_,rfl⟩;obtain⟨b,hbl⟩:=hbl;have HB:=J hbl;clear hbl
   go_wp2_with (first
    |(go_at_call 203;refine (r01_decode_c s k _ hlt oQ).mono ?_;rintro e w1 ⟨rfl,hb1⟩)
    |(go_at_call 245;refine (r01_size_c s k _ hlt oQ).mono ?_;rintro e w2 ⟨rfl,hb2⟩)
    |(go_at_call 247;refine (r01_blank_c _ _).mono ?_;rintro e w3 ⟨rfl,rfl⟩;rw[HB.out]))
   ·have hs1:=Tx.clean_round (out':=out) (gap':=true) hlt hol hv.out (by unfold IS;rw[HB.out,if_pos ‹_›]);go_roundw
    case rel=>exact⟨k+EH (s.data.toList.drop k),out,true,h5,by go_num,rfl,rfl,hs1.1,J hs1.2,(hb.trans (hb1.mono hb.size)).trans (hb2.mono eQ)⟩
    case measure=>simp[intOf];omega
   ·have hg:gap=true:=oB
    have ho:out≠[]:=by
     have h:(!out.isEmpty)=true:=oB;simpa using h
    have hs1:=Tx.clean_round (out':=out++[32]++(s.data.toList.drop k).take (EH (s.data.toList.drop k))) (gap':=false) hlt hol hv.out (by unfold IS;rw[HB.out,if_neg (by simp[*]),if_pos ⟨hg,ho⟩]);go_roundw
    case rel=>exact⟨k+EH (s.data.toList.drop k),_,false,h5,by go_num,by rw[Tx.bcat,Tx.bcat,Tx.extract_wid],rfl,hs1.1,J hs1.2,(hb.trans (hb1.mono hb.size)).trans (hb2.mono eQ)⟩
    case measure=>simp[intOf];omega
   ·have ho:out=[]:=by
     have h:(!out.isEmpty)=false:=oB;simpa using h
    have hs1:=Tx.clean_round (out':=out++(s.data.toList.drop k).take (EH (s.data.toList.drop k))) (gap':=false) hlt hol hv.out (by unfold IS;rw[HB.out,if_neg (by simp[*]),if_neg (fun h=>h.2 ho)]);exact yuv
   ·have hg:¬ gap=true:=oB;have hs1:=Tx.clean_round (out':=out++(s.data.toList.drop k).take (EH (s.data.toList.drop k))) (gap':=false) hlt hol hv.out (by unfold IS;rw[HB.out,if_neg (by simp[*]),if_neg (fun h=>hg h.1)]);exact yuv
  ·go_wp2;go_ret;have:s.data.toList.drop k=[]:=AS aK;exact⟨Tx.rets (by rw[<- hv.out,this];rfl),hb⟩
structure G (w:Ab):Prop where
 u:Lib.Utf8Tabs 1 2 w
 p : Lib.TabIs A8 w "internal/strconv.uint64pow10" .u64 Lib.pow10Tab
 m:∃ m,w.cell? ⟨0,0,A0⟩=A3 (.int .i64 m)
 es:∃ te pe,w.cell? ⟨3,0,A0⟩=A3 (.iface te pe)
 er:∃ te pe,w.cell? ⟨4,0,A0⟩=A3 (.iface te pe)
 lo:5<w.heap.size
theorem G.below {w w':Ab} (h:G w) (hb:Aa w.heap.size w w'):G w':=by
 obtain⟨m,hm⟩:=h.m;obtain⟨te,pe,hs⟩:=h.es;obtain⟨tf,pf,hr⟩:=h.er;exact⟨Utf8Tabs_below h.u hb,var?_below hb oJ h.lo h.p,⟨m,A4 hb hm⟩,⟨te,pe,A4 hb hs⟩,⟨tf,pf,A4 hb hr⟩,AN h.lo hb.size⟩
namespace Tx
theorem decide_blank (c:Nat):((c:Int) == 32||(c:Int) == 160)=blank c:=by
 have e1:=zls;have e2:=zlc;rw[e1,e2];rfl
theorem spans_len (p:Nat->Bool) (s:ByteArray):∀ (f pos:Nat) (st:Option Nat) (acc:List (Nat × Nat)),(Lib.spansFromP p s f pos st acc).1.length<=acc.length+f
 | 0,pos,st,acc=>by simp[Lib.spansFromP]
 | f+1,pos,st,acc=>by
  unfold Lib.spansFromP
  repeat' split
  ·have h:=spans_len p s f (pos+(Utf8.decode s pos).2) A0 (acc++[(‹Nat›,pos)]);rw[Ag]at h;simp at h;omega
  all_goals first | (refine Au (spans_len p s f _ _ _) ?_;omega) | simp
theorem fields_len (p:Nat->Bool) (s:ByteArray):(Gm p s).length<=s.size+1:=by
 unfold Gm Lib.spansOfP Lib.closeSpans;have:=spans_len p s s.size 0 A0 [];rw[Ax];split
 ·rw[Ag];simp at this ⊢;omega
 ·simp at this;omega
theorem cleanFold_len:∀ (n:Nat) (l:List UInt8) (out:List UInt8) (gap:Bool),l.length<=n->(foldT cleanStep (out,gap) l).1.length<=out.length+2*l.length
 | 0,l,out,gap,h=>by
  have:l=[]:=Ar oQ;subst this;rw[foldT_nil];simp
 | n+1,l,out,gap,h=>by
  by_cases hne:l=[]
  ·subst hne;rw[foldT_nil];simp
  ·have hw:=wid_pos l;have hl:=wid_le hne;rw[foldT_step cleanStep _ hne];have ih:=fun o g=>cleanFold_len n (l.drop (wid l)) o g aX
   have e:(cleanStep (out,gap) (l.take (wid l)) (rdec l).1).1.length<=out.length+1+wid l:=by
    unfold cleanStep
    repeat' split
    all_goals simp only[Ag,Az,AH,Bw]
    all_goals omega
   have h2:=ih (cleanStep (out,gap) (l.take (wid l)) (rdec l).1).1 (cleanStep (out,gap) (l.take (wid l)) (rdec l).1).2;rw[Ay]at h2;refine Au h2 ?_;omega
theorem clean_len (l:List UInt8):(clean l).length<=2*l.length:=by
 have:=cleanFold_len l.length l [] false (Ad _);simpa [clean] using this
theorem own_cells {w:Ab}{B e cap A:Nat}{xs:List ByteArray} (h:w.ownsRow B e 1 (.slice (A3 ⟨A,0,A0⟩) xs.length cap) xs.length (xs.map AZ)) :
  ∀ (j:Nat) x,xs[j]?=A3 x->w.cell? ⟨A,0+j,A0⟩=A3 (.string x):=by
 intro j x hx;have hj:=zgm;rw[Ct,h.cellAt j oQ,AP,hx];rfl
theorem own_lt {w:Ab}{B e n m cap A:Nat}{xs:List Ak} (h:w.ownsRow B e 1 (.slice (A3 ⟨A,0,A0⟩) m cap) n xs):A<w.heap.size:=(h.lt A rfl).2
end Tx
theorem text_blank_c (c:Nat) (w:Ab) :
  Af A8 168 #[.int .i32 c] w fun e w'=>e=.returned (.bool (Tx.blank c))/\Aa w.heap.size w w':=by
 go_enter Tryz.func168,Tryz.ntmps168;go_wp2
 all_goals
  go_ret;refine⟨Tx.retb ?_,Ah _ _⟩;rw[<- Tx.decide_blank] <;> simp[*]
theorem text_blank_enters:∀ args w,(callFunc 168 args).run A8 w=.ok (.enter 168 args) w:=enters_of Tryz.func168 oJ rfl
theorem text_Clean_c (s:ByteArray) (w:Ab) (hs:s.size<=1000000000) (hv:AE s.data.toList=true) :
  Af A8 99 #[.string s] w fun e w'=>e=.returned (.string ⟨(Je s.data.toList).toArray⟩)/\Aa w.heap.size w w':=by
 have hce:=Tx.clean_eq s hv;have hcl:=Tx.clean_len s.data.toList;rw[<- Ao]at hcl;have hfl:=Tx.fields_len Tx.blank s;have HE:=J hce;clear hce;have HV:=J hv;clear hv;have hp:PredGrows A8 168 #[] Tx.blank w:=fun W x _ _=>text_blank_c x W;have HP:=J hp;clear hp;go_enter Tryz.func99,Tryz.ntmps99
 go_wp2_with (first
  |(go_at_call 167;refine (Tryz.strings_FieldsFunc_grows 168 #[] text_blank_enters Tx.blank s _ oQ HP.out).mono ?_;rintro e w1 ⟨A,rfl,hA,hown,hb1⟩)
  |(go_at_call 166;refine (Tryz.strings_Join A 0 _ (Gm Tx.blank s) ⟨#[32]⟩ _ (Tx.own_cells hown) (Tx.own_lt hown) oQ (Ad _) (by rw[HE.out];omega)).mono ?_;rintro e w2 ⟨rfl,hb2⟩))
 go_ret;exact⟨Tx.rets (by rw[HE.out]),hb1.trans (hb2.mono hb1.size)⟩
theorem info_str:(A8.info? 9).map (fun i=>(i.zero,i.size,i.bytes))=A3 (A3 (.string ⟨#[]⟩),1,16):=by kernel_rfl
theorem Tx.newb (w:Ab) (o:Obj):Aa w.heap.size w (w.alloc o):=(Ah _ _).alloc (Ad _) _
theorem Tx.ent1 (w:Ab) (v0:Ak) (t:Bo):∃ W,w.alloc (.cells #[v0] t)=W/\Aa w.heap.size w W/\W.cell? ⟨w.heap.size,0,A0⟩=A3 v0:=⟨_,rfl,Tx.newb _ _,oZ⟩
theorem Tx.ent2 (w:Ab) (v0 v1:Ak) (t:Bo):∃ W,w.alloc (.cells #[v0,v1] t)=W/\Aa w.heap.size w W/\W.cell? ⟨w.heap.size,0,A0⟩=A3 v0/\W.cell? ⟨w.heap.size,1,A0⟩=A3 v1:=⟨_,rfl,Tx.newb _ _,oZ,oZ⟩
theorem Tx.ent3 (w:Ab) (v0 v1 v2:Ak) (t:Bo):∃ W,w.alloc (.cells #[v0,v1,v2] t)=W/\Aa w.heap.size w W/\W.cell? ⟨w.heap.size,0,A0⟩=A3 v0/\W.cell? ⟨w.heap.size,1,A0⟩=A3 v1/\W.cell? ⟨w.heap.size,2,A0⟩=A3 v2:=⟨_,rfl,Tx.newb _ _,oZ,oZ,oZ⟩
theorem Tx.ent4 (w:Ab) (v0 v1 v2 v3:Ak) (t:Bo):∃ W,w.alloc (.cells #[v0,v1,v2,v3] t)=W/\Aa w.heap.size w W/\W.cell? ⟨w.heap.size,0,A0⟩=A3 v0/\W.cell? ⟨w.heap.size,1,A0⟩=A3 v1/\W.cell? ⟨w.heap.size,2,A0⟩=A3 v2/\W.cell? ⟨w.heap.size,3,A0⟩=A3 v3:=⟨_,rfl,Tx.newb _ _,oZ,oZ,oZ,oZ⟩
theorem Tx.ent5 (w:Ab) (v0 v1 v2 v3 v4:Ak) (t:Bo):∃ W,w.alloc (.cells #[v0,v1,v2,v3,v4] t)=W/\Aa w.heap.size w W/\W.cell? ⟨w.heap.size,0,A0⟩=A3 v0/\W.cell? ⟨w.heap.size,1,A0⟩=A3 v1/\W.cell? ⟨w.heap.size,2,A0⟩=A3 v2/\W.cell? ⟨w.heap.size,3,A0⟩=A3 v3/\W.cell? ⟨w.heap.size,4,A0⟩=A3 v4:=⟨_,rfl,Tx.newb _ _,oZ,oZ,oZ,oZ,oZ⟩
theorem Tx.ent6 (w:Ab) (v0 v1 v2 v3 v4 v5:Ak) (t:Bo):∃ W,w.alloc (.cells #[v0,v1,v2,v3,v4,v5] t)=W/\Aa w.heap.size w W/\W.cell? ⟨w.heap.size,0,A0⟩=A3 v0/\W.cell? ⟨w.heap.size,1,A0⟩=A3 v1/\W.cell? ⟨w.heap.size,2,A0⟩=A3 v2/\W.cell? ⟨w.heap.size,3,A0⟩=A3 v3/\W.cell? ⟨w.heap.size,4,A0⟩=A3 v4/\W.cell? ⟨w.heap.size,5,A0⟩=A3 v5:=⟨_,rfl,Tx.newb _ _,oZ,oZ,oZ,oZ,oZ,oZ⟩
theorem Tx.cell_one_at (w:Ab) (g:Nat) (hg:g=w.heap.size) (x:Ak) (t:Bo):∀ j u,[x][j]?=A3 u->(w.alloc (.cells #[x] t)).cell? ((⟨g,0,A0⟩:Aq).add j)=A3 u:=by
 subst hg;exact cell_one_new w x t
def SL (w:Ab) (v:Ak) (xs:List ByteArray):Prop :=
 (xs=[]/\∃ a c,v=.slice a 0 c) \/
 ∃ b o c,v=.slice (A3 ⟨b,o,A0⟩) xs.length c/\xs.length<=c/\c<=Ap/\b<w.heap.size/\∀ (j:Nat) x,xs[j]?=A3 x->w.cell? ⟨b,o+j,A0⟩=A3 (.string x)
theorem SL.below {w w':Ab}{v:Ak}{xs:List ByteArray} (h:SL w v xs) (hb:Aa w.heap.size w w'):SL w' v xs:=by
 rcases h with h | ⟨b,o,c,h1,h2,h5,h3,h4⟩
 ·exact .inl h
 ·exact .inr ⟨b,o,c,h1,h2,h5,AN h3 hb.size,fun j x hx=>A4 hb (h4 j x hx)⟩
theorem SL.of_own {w:Ab}{B e n:Nat}{v:Ak}{xs:List ByteArray}{ys:List Ak} (h:w.ownsRow B e 1 v n ys) (hy:ys=xs.map AZ):SL w v xs:=by
 subst hy;have hn:n=xs.length:=by have:=h.1;simp at this;omega
 subst hn;rcases h.2 with⟨rfl,h0⟩ | ⟨g,cap,cur,rfl,hb,hg,h1,h2,_⟩
 ·exact .inl ⟨Ar h0,_,_,rfl⟩
 ·exact .inr ⟨g,0,cap,rfl,h1,h2,(AA.1 hg).1,fun j x hx=>by
   have hj:=zgm;rw[Ct,h.cellAt j oQ,AP,hx];rfl⟩
theorem Join_c (v:Ak) (xs:List ByteArray) (sep:ByteArray) (w:Ab) (h:SL w v xs) (hlen:(Lib.join (xs.map (·.data.toList)) sep.data.toList).length<=140737488355328) (hN:xs.length<=140737488355328) :
  Af A8 166 #[v,.string sep] w fun e w'=>e=.returned (.string ⟨(Lib.join (xs.map (·.data.toList)) sep.data.toList).toArray⟩)/\Aa w.heap.size w w':=by
 rcases h with⟨rfl,a,c,rfl⟩ | ⟨b,o,c,rfl,h1,_,h2,h3⟩
 ·exact (Any.strings_Join_none Tryz.lays156 Tryz.Builder_Extra_156 a c sep w).mono fun _ _ ⟨he,hw⟩=>⟨he,hw▸Ah _ _⟩
 ·exact Tryz.strings_Join b o c xs sep w h3 h2 hN h1 hlen
def Tx.Adds (P:Program):ByteArray->List ByteArray->Prop
 | _,[]=>True
 | a,b::l=>(∀ W,(Op.stringOp .add a b).run P W=.ok (.string (a++b)) W)/\Tx.Adds P (a++b) l
theorem Tx.adds_ok (P:Program):∀ (l:List ByteArray) (a:ByteArray),a.size+(l.map (·.size)).sum<=9223372036854775807->Tx.Adds P a l
 | [],_,_=>trivial
 | b::l,a,h=>by
  rw[List.map_cons,List.sum_cons]at h;exact⟨fun W=>run_string_add_sum W a b oQ,Tx.adds_ok P l (a++b) (by rw[ByteArray.size_append];omega)⟩
theorem Tx.size_mk (l:List UInt8):(⟨l.toArray⟩:ByteArray).size=l.length:=by simp[ByteArray.size]
theorem Tx.step {W wi w1:Ab} (h:Aa W.heap.size W wi) (hb:Aa wi.heap.size wi w1):Aa W.heap.size W w1:=h.trans (hb.mono h.size)
theorem Tx.blk {w:Ab}{g:Nat}{cs:Array Ak}{t:Bo} (h:w.heap[g]?=A3 (.cells cs t (0,0))):(∀ i,w.cell? ⟨g,i,A0⟩=cs[i]?)/\(∀ i,w.frozen? ⟨g,i,A0⟩=false)/\g<w.heap.size :=
 ⟨fun i=>cell_of_row w g i cs t (0,0) h,fun i=>by simp[World.frozen?,h],(AA.1 h).1⟩
theorem Tx.blk_later {w w':Ab}{g:Nat}{o:Obj} (h:w.heap[g]?=A3 o) (hb:Aa w.heap.size w w'):w'.heap[g]?=A3 o:=(hb.block g (AA.1 h).1).trans h
theorem Tx.blk_far {w:Ab}{g:Nat}{o:Obj}{a:Aq} (h:w.heap[g]?=A3 o) (hg:g≠a.block) (u:Ak):(w.setCell a u).heap[g]?=A3 o:=(Below.heap_setCell _ _ _ _ hg).trans h
theorem Tx.a6 {w:Ab}{g:Nat}{v0 v1 v2 v3 v4 v5:Ak}{l:List Ak}{t:Bo} (h:∀ o,(w.alloc o).heap[g]?=A3 (.cells (List.toArray (v0::v1::v2::v3::v4::v5::l)) t (0,0))):(∀ o,(w.alloc o).cell? ⟨g,0,A0⟩=A3 v0)/\(∀ o,(w.alloc o).cell? ⟨g,1,A0⟩=A3 v1)/\(∀ o,(w.alloc o).cell? ⟨g,2,A0⟩=A3 v2)/\(∀ o,(w.alloc o).cell? ⟨g,3,A0⟩=A3 v3)/\(∀ o,(w.alloc o).cell? ⟨g,4,A0⟩=A3 v4)/\(∀ o,(w.alloc o).cell? ⟨g,5,A0⟩=A3 v5)/\∀ o i,(w.alloc o).frozen? ⟨g,i,A0⟩=false:=⟨fun o=>by simp[(Tx.blk (h o)).1],fun o=>by simp[(Tx.blk (h o)).1],fun o=>by simp[(Tx.blk (h o)).1],fun o=>by simp[(Tx.blk (h o)).1],fun o=>by simp[(Tx.blk (h o)).1],fun o=>by simp[(Tx.blk (h o)).1],fun o=>(Tx.blk (h o)).2.1⟩
theorem Tx.c1 {w:Ab}{g:Nat}{v0:Ak}{l:List Ak}{t:Bo} (h:w.heap[g]?=A3 (.cells (List.toArray (v0::l)) t (0,0))):w.cell? ⟨g,0,A0⟩=A3 v0/\∀ i,w.frozen? ⟨g,i,A0⟩=false:=⟨by simp[(Tx.blk h).1],(Tx.blk h).2.1⟩
theorem Tx.c2 {w:Ab}{g:Nat}{v0 v1:Ak}{l:List Ak}{t:Bo} (h:w.heap[g]?=A3 (.cells (List.toArray (v0::v1::l)) t (0,0))):w.cell? ⟨g,0,A0⟩=A3 v0/\w.cell? ⟨g,1,A0⟩=A3 v1/\∀ i,w.frozen? ⟨g,i,A0⟩=false:=⟨by simp[(Tx.blk h).1],by simp[(Tx.blk h).1],(Tx.blk h).2.1⟩
theorem Tx.c3 {w:Ab}{g:Nat}{v0 v1 v2:Ak}{l:List Ak}{t:Bo} (h:w.heap[g]?=A3 (.cells (List.toArray (v0::v1::v2::l)) t (0,0))):w.cell? ⟨g,0,A0⟩=A3 v0/\w.cell? ⟨g,1,A0⟩=A3 v1/\w.cell? ⟨g,2,A0⟩=A3 v2/\∀ i,w.frozen? ⟨g,i,A0⟩=false:=⟨by simp[(Tx.blk h).1],by simp[(Tx.blk h).1],by simp[(Tx.blk h).1],(Tx.blk h).2.1⟩
theorem Tx.c4 {w:Ab}{g:Nat}{v0 v1 v2 v3:Ak}{l:List Ak}{t:Bo} (h:w.heap[g]?=A3 (.cells (List.toArray (v0::v1::v2::v3::l)) t (0,0))):w.cell? ⟨g,0,A0⟩=A3 v0/\w.cell? ⟨g,1,A0⟩=A3 v1/\w.cell? ⟨g,2,A0⟩=A3 v2/\w.cell? ⟨g,3,A0⟩=A3 v3/\∀ i,w.frozen? ⟨g,i,A0⟩=false:=⟨by simp[(Tx.blk h).1],by simp[(Tx.blk h).1],by simp[(Tx.blk h).1],by simp[(Tx.blk h).1],(Tx.blk h).2.1⟩
theorem Tx.c5 {w:Ab}{g:Nat}{v0 v1 v2 v3 v4:Ak}{l:List Ak}{t:Bo} (h:w.heap[g]?=A3 (.cells (List.toArray (v0::v1::v2::v3::v4::l)) t (0,0))):w.cell? ⟨g,0,A0⟩=A3 v0/\w.cell? ⟨g,1,A0⟩=A3 v1/\w.cell? ⟨g,2,A0⟩=A3 v2/\w.cell? ⟨g,3,A0⟩=A3 v3/\w.cell? ⟨g,4,A0⟩=A3 v4/\∀ i,w.frozen? ⟨g,i,A0⟩=false:=⟨by simp[(Tx.blk h).1],by simp[(Tx.blk h).1],by simp[(Tx.blk h).1],by simp[(Tx.blk h).1],by simp[(Tx.blk h).1],(Tx.blk h).2.1⟩
theorem Tx.c6 {w:Ab}{g:Nat}{v0 v1 v2 v3 v4 v5:Ak}{l:List Ak}{t:Bo} (h:w.heap[g]?=A3 (.cells (List.toArray (v0::v1::v2::v3::v4::v5::l)) t (0,0))):w.cell? ⟨g,0,A0⟩=A3 v0/\w.cell? ⟨g,1,A0⟩=A3 v1/\w.cell? ⟨g,2,A0⟩=A3 v2/\w.cell? ⟨g,3,A0⟩=A3 v3/\w.cell? ⟨g,4,A0⟩=A3 v4/\w.cell? ⟨g,5,A0⟩=A3 v5/\∀ i,w.frozen? ⟨g,i,A0⟩=false:=⟨by simp[(Tx.blk h).1],by simp[(Tx.blk h).1],by simp[(Tx.blk h).1],by simp[(Tx.blk h).1],by simp[(Tx.blk h).1],by simp[(Tx.blk h).1],(Tx.blk h).2.1⟩
theorem Tx.c7 {w:Ab}{g:Nat}{v0 v1 v2 v3 v4 v5 v6:Ak}{l:List Ak}{t:Bo} (h:w.heap[g]?=A3 (.cells (List.toArray (v0::v1::v2::v3::v4::v5::v6::l)) t (0,0))):w.cell? ⟨g,0,A0⟩=A3 v0/\w.cell? ⟨g,1,A0⟩=A3 v1/\w.cell? ⟨g,2,A0⟩=A3 v2/\w.cell? ⟨g,3,A0⟩=A3 v3/\w.cell? ⟨g,4,A0⟩=A3 v4/\w.cell? ⟨g,5,A0⟩=A3 v5/\w.cell? ⟨g,6,A0⟩=A3 v6/\∀ i,w.frozen? ⟨g,i,A0⟩=false:=⟨by simp[(Tx.blk h).1],by simp[(Tx.blk h).1],by simp[(Tx.blk h).1],by simp[(Tx.blk h).1],by simp[(Tx.blk h).1],by simp[(Tx.blk h).1],by simp[(Tx.blk h).1],(Tx.blk h).2.1⟩
theorem Tx.c8 {w:Ab}{g:Nat}{v0 v1 v2 v3 v4 v5 v6 v7:Ak}{l:List Ak}{t:Bo} (h:w.heap[g]?=A3 (.cells (List.toArray (v0::v1::v2::v3::v4::v5::v6::v7::l)) t (0,0))):w.cell? ⟨g,0,A0⟩=A3 v0/\w.cell? ⟨g,1,A0⟩=A3 v1/\w.cell? ⟨g,2,A0⟩=A3 v2/\w.cell? ⟨g,3,A0⟩=A3 v3/\w.cell? ⟨g,4,A0⟩=A3 v4/\w.cell? ⟨g,5,A0⟩=A3 v5/\w.cell? ⟨g,6,A0⟩=A3 v6/\w.cell? ⟨g,7,A0⟩=A3 v7/\∀ i,w.frozen? ⟨g,i,A0⟩=false:=⟨by simp[(Tx.blk h).1],by simp[(Tx.blk h).1],by simp[(Tx.blk h).1],by simp[(Tx.blk h).1],by simp[(Tx.blk h).1],by simp[(Tx.blk h).1],by simp[(Tx.blk h).1],by simp[(Tx.blk h).1],(Tx.blk h).2.1⟩
theorem Tx.d2 {w:Ab}{g:Nat}{v0 v1:Ak}{l:List Ak} (h:∀ i,w.cell? ⟨g,i,A0⟩=(List.toArray (v0::v1::l))[i]?):w.cell? ⟨g,0,A0⟩=A3 v0/\w.cell? ⟨g,1,A0⟩=A3 v1:=⟨by simp[h],by simp[h]⟩
theorem Tx.d3 {w:Ab}{g:Nat}{v0 v1 v2:Ak}{l:List Ak} (h:∀ i,w.cell? ⟨g,i,A0⟩=(List.toArray (v0::v1::v2::l))[i]?):w.cell? ⟨g,0,A0⟩=A3 v0/\w.cell? ⟨g,1,A0⟩=A3 v1/\w.cell? ⟨g,2,A0⟩=A3 v2:=⟨by simp[h],by simp[h],by simp[h]⟩
theorem Tx.d6 {w:Ab}{g:Nat}{v0 v1 v2 v3 v4 v5:Ak}{l:List Ak} (h:∀ i,w.cell? ⟨g,i,A0⟩=(List.toArray (v0::v1::v2::v3::v4::v5::l))[i]?):w.cell? ⟨g,0,A0⟩=A3 v0/\w.cell? ⟨g,1,A0⟩=A3 v1/\w.cell? ⟨g,2,A0⟩=A3 v2/\w.cell? ⟨g,3,A0⟩=A3 v3/\w.cell? ⟨g,4,A0⟩=A3 v4/\w.cell? ⟨g,5,A0⟩=A3 v5:=⟨by simp[h],by simp[h],by simp[h],by simp[h],by simp[h],by simp[h]⟩
theorem Tx.f2 {w:Ab}{g:Nat}{v0 v1:Ak}{l:List Ak}{t:Bo}{p:Nat} (h:w.heap[g]?=A3 (.cells (List.toArray (v0::v1::l)) t (0,0))) (hg:g≠p):(∀ v,(w.setCell ⟨p,1,A0⟩ v).cell? ⟨g,0,A0⟩=A3 v0)/\(∀ v,(w.setCell ⟨p,1,A0⟩ v).cell? ⟨g,1,A0⟩=A3 v1):=⟨fun v=>by simp[(Tx.blk (Tx.blk_far (a:=⟨p,1,A0⟩) h hg v)).1],fun v=>by simp[(Tx.blk (Tx.blk_far (a:=⟨p,1,A0⟩) h hg v)).1]⟩
theorem Tx.f6 {w:Ab}{g:Nat}{v0 v1 v2 v3 v4 v5:Ak}{l:List Ak}{t:Bo}{p:Nat} (h:w.heap[g]?=A3 (.cells (List.toArray (v0::v1::v2::v3::v4::v5::l)) t (0,0))) (hg:g≠p):(∀ v,(w.setCell ⟨p,1,A0⟩ v).cell? ⟨g,0,A0⟩=A3 v0)/\(∀ v,(w.setCell ⟨p,1,A0⟩ v).cell? ⟨g,1,A0⟩=A3 v1)/\(∀ v,(w.setCell ⟨p,1,A0⟩ v).cell? ⟨g,2,A0⟩=A3 v2)/\(∀ v,(w.setCell ⟨p,1,A0⟩ v).cell? ⟨g,3,A0⟩=A3 v3)/\(∀ v,(w.setCell ⟨p,1,A0⟩ v).cell? ⟨g,4,A0⟩=A3 v4)/\(∀ v,(w.setCell ⟨p,1,A0⟩ v).cell? ⟨g,5,A0⟩=A3 v5):=⟨fun v=>by simp[(Tx.blk (Tx.blk_far (a:=⟨p,1,A0⟩) h hg v)).1],fun v=>by simp[(Tx.blk (Tx.blk_far (a:=⟨p,1,A0⟩) h hg v)).1],fun v=>by simp[(Tx.blk (Tx.blk_far (a:=⟨p,1,A0⟩) h hg v)).1],fun v=>by simp[(Tx.blk (Tx.blk_far (a:=⟨p,1,A0⟩) h hg v)).1],fun v=>by simp[(Tx.blk (Tx.blk_far (a:=⟨p,1,A0⟩) h hg v)).1],fun v=>by simp[(Tx.blk (Tx.blk_far (a:=⟨p,1,A0⟩) h hg v)).1]⟩
theorem Tx.han {w:Ab}{o:Obj}{B:Nat} (_:Aa B w (w.alloc o)):(w.alloc o).heap[w.heap.size]?=A3 o:=heap_alloc_new w o
theorem Tx.nr {e:Ending}{a:Array Ak} (_:e=.returned (.agg a)) (w:Ab):Aa w.heap.size w (w.alloc (.cells a 205)):=Tx.newb _ _
theorem Tx.al2 {w:Ab}{o:Obj}{B:Nat} (_:Aa B w (w.alloc o)) (p:Obj):Aa (w.alloc o).heap.size (w.alloc o) ((w.alloc o).alloc p):=Tx.newb _ _
theorem Tx.set4 {B g:Nat}{w wr:Ab} (h:Aa B w wr) (hg:B<=g) (v0 v1 v2 v3:Ak) :
  Aa B w ((((wr.setCell ⟨g,0,A0⟩ v0).setCell ⟨g,1,A0⟩ v1).setCell ⟨g,2,A0⟩ v2).setCell ⟨g,3,A0⟩ v3) :=
 (((h.setCell hg _).setCell hg _).setCell hg _).setCell hg _
structure SLA (w:Ab) (a:Option Aq) (c:Nat) (xs:List ByteArray):Prop where
 cap:xs.length<=c
 max:c<=Ap
 at_:∃ b o,(xs≠[]->a=A3 ⟨b,o,A0⟩/\b<w.heap.size)/\∀ (j:Nat) x,xs[j]?=A3 x->w.cell? ⟨b,o+j,A0⟩=A3 (.string x)
theorem SLA.below {w w':Ab}{a:Option Aq}{c:Nat}{xs:List ByteArray} (h:SLA w a c xs) (hb:Aa w.heap.size w w'):SLA w' a c xs:=by
 obtain⟨b,o,h1,h2⟩:=h.at_;exact⟨h.cap,h.max,b,o,fun hn=>⟨(h1 hn).1,AN (h1 hn).2 hb.size⟩,fun j x hx=>A4 hb (h2 j x hx)⟩
theorem SLA.get {w:Ab}{a:Option Aq}{c:Nat}{xs:List ByteArray} (h:SLA w a c xs) {k:Nat}{x:ByteArray} (hk:xs[k]?=A3 x) :
  ∃ b o,a=A3 ⟨b,o,A0⟩/\b<w.heap.size/\w.cell? ⟨b,o+k,A0⟩=A3 (.string x):=by
 obtain⟨b,o,h1,h2⟩:=h.at_;have hne:=ziw;exact⟨b,o,(h1 hne).1,(h1 hne).2,h2 k x hk⟩
theorem SLA.of_own {w:Ab}{B e n:Nat}{v:Ak}{xs:List ByteArray}{ys:List Ak} (h:w.ownsRow B e 1 v n ys) (hy:ys=xs.map AZ):∃ a c,v=.slice a xs.length c/\SLA w a c xs:=by
 subst hy;have hn:n=xs.length:=by have:=h.1;simp at this;omega
 subst hn;rcases h.2 with⟨rfl,h0⟩ | ⟨g,cap,cur,rfl,hb,hg,h1,h2,_⟩
 ·rw[h0];have:=Ar h0;subst this;exact⟨A0,0,rfl,oZ,oZ,0,0,fun h=>absurd rfl h,fun j x hx=>by simp at hx⟩
 ·exact⟨_,cap,rfl,h1,h2,g,0,fun _=>⟨rfl,(AA.1 hg).1⟩,fun j x hx=>by
   have hj:=zgm;rw[Ct,h.cellAt j oQ,AP,hx];rfl⟩
theorem SLA.sl {w:Ab}{a:Option Aq}{c:Nat}{xs:List ByteArray} (h:SLA w a c xs):SL w (.slice a xs.length c) xs:=by
 by_cases hne:xs=[]
 ·subst hne;exact .inl ⟨rfl,a,c,rfl⟩
 ·obtain⟨b,o,h1,h2⟩:=h.at_;obtain⟨rfl,hb⟩:=h1 hne;exact .inr ⟨b,o,c,rfl,h.cap,h.max,hb,h2⟩
theorem SL.sla {w:Ab}{v:Ak}{xs:List ByteArray} (h:SL w v xs):∃ a c,v=.slice a xs.length c/\(xs≠[]->SLA w a c xs):=by
 rcases h with⟨rfl,a,c,rfl⟩ | ⟨b,o,c,rfl,h1,h2,h3,h4⟩
 ·exact⟨a,c,rfl,fun h=>absurd rfl h⟩
 ·exact⟨_,c,rfl,fun _=>⟨h1,h2,b,o,fun _=>⟨rfl,h3⟩,h4⟩⟩
namespace Cs
structure LA {α:Type} (enc:α->Ak) (w:Ab) (b o c:Nat) (xs:List α):Prop where
 cap:xs.length<=c
 max:c<=Ap
 lt:b<w.heap.size
 at_:∀ (j:Nat) x,xs[j]?=A3 x->w.cell? ⟨b,o+j,A0⟩=A3 (enc x)
theorem LA.below {α:Type}{enc:α->Ak}{w w':Ab}{b o c:Nat}{xs:List α} (h:LA enc w b o c xs) (hb:Aa w.heap.size w w'):LA enc w' b o c xs :=
 ⟨h.cap,h.max,AN h.lt hb.size,fun j x hx=>A4 hb (h.at_ j x hx)⟩
theorem LA.of_own {α:Type}{enc:α->Ak}{w:Ab}{B e n g cap:Nat}{xs:List α} (h:w.ownsRow B e 1 (.slice (A3 ⟨g,0,A0⟩) n cap) n (xs.map enc)) (hm:n=xs.length):LA enc w g 0 cap xs:=by
 subst hm;refine⟨?_,?_,(h.lt g rfl).2,fun j x hx=>?_⟩
 ·rcases h.2 with⟨h0,_⟩ | ⟨g',cap',cur,h',_,_,h1,_⟩
  ·simp at h0
  ·simp only[Value.slice.injEq]at h';omega
 ·rcases h.2 with⟨h0,_⟩ | ⟨g',cap',cur,h',_,_,_,h1,_⟩
  ·simp at h0
  ·simp only[Value.slice.injEq]at h';omega
 ·have hj:=zgm;rw[Ct,h.cellAt j oQ,AP,hx];rfl
theorem add_at (b o j:Nat):(⟨b,o,A0⟩:Aq).add j=⟨b,o+j,A0⟩:=by unfold Addr.add;split <;> simp_all
theorem LA.cellsT {α:Type}{enc:α->Ak}{w w':Ab}{b o c:Nat}{xs:List α} (h:LA enc w b o c xs) (hb:Aa w.heap.size w w') (k:Nat):∀ j u,((xs.take k).map enc)[j]?=A3 u->w'.cell? ((⟨b,o,A0⟩:Aq).add j)=A3 u:=by
 intro j u hj;rw[AP,List.getElem?_take]at hj;split at hj
 ·obtain⟨x,hx,rfl⟩:=zqs;rw[add_at];exact A4 hb (h.at_ j x hx)
 ·cases hj
theorem LA.cellsD {α:Type}{enc:α->Ak}{w w':Ab}{b o c:Nat}{xs:List α} (h:LA enc w b o c xs) (hb:Aa w.heap.size w w') (k:Nat):∀ j u,((xs.drop k).map enc)[j]?=A3 u->w'.cell? ((⟨b,o+k,A0⟩:Aq).add j)=A3 u:=by
 intro j u hj;rw[AP,List.getElem?_drop]at hj;obtain⟨x,hx,rfl⟩:=zqs;rw[add_at,Nat.add_assoc];exact A4 hb (h.at_ (k+j) x hx)
end Cs
namespace Br
theorem cells_new_at (w:Ab) (g:Nat) (hg:g=w.heap.size) (cs:Array Ak) (t:Bo):∀ j u,cs.toList[j]?=A3 u->(w.alloc (.cells cs t)).cell? ((⟨g,0,A0⟩:Aq).add j)=A3 u:=by
 subst hg;intro j u h;rw[Cs.add_at,Ct];have hj:j<cs.size:=by have:=(Av.1 h).1;simpa using this
 simp only[World.cell?,heap_alloc_new];simpa using h
theorem flat_at {α:Type} (enc:α->List Ak) (size:Nat) (hs:∀ x,(enc x).length=size):∀ (xs:List α) (k i:Nat) (x:α),xs[k]?=A3 x->i<size->(xs.flatMap enc)[k*size+i]?=(enc x)[i]?
 | [],k,i,x,h,_=>by simp at h
 | y::r,0,i,x,h,hi=>by
  simp at h;subst h;rw[Nat.zero_mul,Ct,CU,List.getElem?_append_left (by rw[hs];exact hi)]
 | y::r,k+1,i,x,h,hi=>by
  rw[CU,List.getElem?_append_right (by rw[hs,Gc];omega),hs,show (k+1)*size+i - size=k*size+i by rw[Gc];omega];exact flat_at enc size hs r k i x eJ hi
theorem flat_len {α:Type} (enc:α->List Ak) (size:Nat) (hs:∀ x,(enc x).length=size):∀ xs:List α,(xs.flatMap enc).length=xs.length*size
 | []=>oZ
 | x::r=>by rw[CU,Ag,hs,flat_len enc size hs r,AH,Gc];omega
theorem own_any {α:Type}{enc:α->List Ak}{size:Nat} (hs:∀ x,(enc x).length=size) {w:Ab}{B e n:Nat}{v:Ak}{xs:List α} (h:w.ownsRow B e size v n (xs.flatMap enc)) (hn:n=xs.length) :
  ∃ a c,v=.slice a xs.length c/\xs.length<=c/\c<=Ap/\(xs=[]\/∃ g,a=A3 ⟨g,0,A0⟩/\B<=g/\g<w.heap.size/\∀ (k i:Nat) (x:α) (u:Ak),xs[k]?=A3 x->i<size->(enc x)[i]?=A3 u->w.cell? ⟨g,k*size+i,A0⟩=A3 u):=by
 subst hn;have h0:=h;rcases h.2 with⟨rfl,h7⟩ | ⟨g,cap,cur,rfl,hb,hg,h1,h2,_⟩
 ·have h8:=Ar h7;subst h8;exact⟨A0,0,rfl,Ad _,oZ,.inl rfl⟩
 ·refine⟨_,cap,rfl,h1,h2,.inr ⟨g,rfl,hb,(AA.1 hg).1,fun k i x u hk hi hu=>?_⟩⟩;have hkl:k<xs.length:=(Av.1 hk).1;rw[h0.cellAt (k*size+i) (AN (Nat.add_lt_add_left hi _) (by rw[<- Gc];exact Nat.mul_le_mul_right _ hkl)),flat_at enc size hs xs k i x hk hi,hu]
end Br
section
variable {P : Program} {w : Ab}
theorem run_append_none_any (base:Nat) (t ty e:Bo) (i:TypeInfo) (size:Nat) (ht:P.underlying t=A3 (.slice e)) (hi:P.info? e=A3 i)
  (v:Ak) (n:Nat) (xs:List Ak) (hown:w.ownsRow base e size v n xs) (c:Nat) :
  (LX #[t,t] ty #[v,.slice A0 0 c]).run P w=.ok v w:=by
 rcases hown.2 with⟨rfl,rfl⟩ | ⟨g,cap,cur,rfl,_,_,hnc,_⟩
 ·simp[LX,run_underlying ht,sizeOf,typeInfo,hi,Builtin.lenOf,Builtin.firstCells]
 ·simp[LX,run_underlying ht,sizeOf,typeInfo,hi,Builtin.lenOf,Builtin.firstCells,hnc,storeCells]
theorem wpList_append_sl {ops:Array Oper}{rest:List Oper}{o:Oper}{a:Act}{Q:Exit->Act->Ab->Prop} (hgd:o.guard=A0) (s x:Operand) (t:Bo)
  (ho:o.op=.call { callee:=.builtin .append,args:=#[s,x],argTypes:=#[t,t] })
  (base:Nat) (e:Bo) (i:TypeInfo) (z:Ak) (size bytes:Nat) (ht:P.underlying t=A3 (.slice e)) (hi:P.info? e=A3 i) (hz:i.zero=A3 z)
  (hsize:i.size=size) (hby:i.bytes=bytes) (hzs:z.cells.size=size) (hsz:0<size)
  (v:Ak) (n:Nat) (xs:List Ak) (hs:a.eval s=v) (hown:w.ownsRow base e size v n xs)
  (ao:Option Aq) (m c:Nat) (news:List Ak) (hx:a.eval x=.slice ao m c) (hl:news.length=m*size) (hno:ao=A0->m=0) (hnews:∀ ad,ao=A3 ad->∀ j u,news[j]?=A3 u->w.cell? (ad.add j)=A3 u) (h1:∀ u∈news,u.oneCell'=true)
  (h63:n+m<=Ap) (hbytes:(n+m)*bytes<=140737488355328) (hbase:base<=w.heap.size)
  (h:∀ v' w',w'.ownsRow base e size v' (n+m) (xs++news)->w.grownBy w' v.ownBlock->(v'.ownBlock=v.ownBlock\/v'.ownBlock=A3 w.heap.size)->wpList P ops Q rest (a.put o.dst v') w'):wpList P ops Q (o::rest) a w:=by
 cases ao with
 | none =>
  obtain rfl:=hno rfl;have hn:=zew;subst hn;refine wpList_plain hgd fun K hK=>?_;have hrun:=zej;unfold Oper.wp;simp[execOp,ho,resolve,invoke,builtin,hs,hx,hrun,Result.andThen];exact hK _ _ (h v w UV ⟨rfl,rfl,rfl,Ad _,fun _ _ _=>rfl⟩ (.inl rfl))
 | some ad=>exact wpList_append_own_at w hgd s x t ho base e i z size bytes ht hi hz hsize hby hzs hsz v n xs hs hown ad m c news hx hl (hnews ad rfl) h1 h63 hbytes hbase (fun v' w' h2 h3 _ h5=>h v' w' h2 h3 h5)
end
theorem SLA.none {w:Ab}{a:Option Aq}{c:Nat}{xs:List ByteArray} (h:SLA w a c xs):a=A0->xs.length=0:=by
 intro ha;obtain⟨b,o,h1,_⟩:=h.at_;cases xs with
 | nil=>rfl
 | cons x r=>have:=(h1 oZ).1;rw[ha]at this;cases this
theorem SLA.cells {w:Ab}{a:Option Aq}{c:Nat}{xs:List ByteArray} (h:SLA w a c xs):∀ ad,a=A3 ad->∀ j u,(xs.map AZ)[j]?=A3 u->w.cell? (ad.add j)=A3 u:=by
 intro ad ha j u hj;rw[AP,Option.map_eq_some_iff]at hj;obtain⟨x,hx,rfl⟩:=hj;obtain⟨b,o,hb,_,hc⟩:=h.get hx;rw[hb]at ha;injection ha with ha;subst ha;rw[Cs.add_at];exact hc
theorem SLA.ones (xs:List ByteArray):∀ u∈xs.map AZ,u.oneCell'=true:=fun u hu=>by
 obtain⟨z,_,rfl⟩:=List.mem_map.1 hu;rfl
theorem Tx.undrew {w w1:Ab} (h:Aa w.drew.heap.size w.drew w1):Aa w.heap.size w w1:=((Ah _ _).drew).trans h
theorem Rc.cell_lt {w:Ab}{b o:Nat}{v:Ak} (h:w.cell? ⟨b,o,A0⟩=A3 v):b<w.heap.size:=World.block_lt_of_cell? w ⟨b,o,A0⟩ h
section
open Go.Shelf
def renB:Go.Shelf.Ren:=⟨fun
 | 166=>163
 | 167=>182
 | 168=>162 | 169=>164 | 240=>231 | 242=>232 | 276=>282 | 278=>283 | n=>n,
 fun | 0=>0 | 3=>3 | 4=>4 | 5=>5 | 9=>9 | 20=>20 | 21=>21 | 37=>174 | 46=>119 | 51=>195 | 70=>173 | 72=>176 | 75=>178 | 76=>179 | 80=>182 | 164=>260 | n=>n,fun | n=>n⟩
theorem layB166:Go.Proofs.Lays.n166 A8 renB:=by constructor <;> first | kernel_rfl | (intro w;kernel_rfl)
theorem layB167:Go.Proofs.Lays.n167 A8 renB:=by constructor <;> first | kernel_rfl | (intro w;kernel_rfl)
theorem layB168:Go.Proofs.Lays.n168 A8 renB:=by constructor <;> first | kernel_rfl | (intro w;kernel_rfl)
theorem extraB:Builder.Extra A8 renB where
 sizeBuilder:=by kernel_rfl
 liesBuilder:=by kernel_rfl
 t5:=by kernel_rfl
 a5:=fun w=>by kernel_rfl
 z5:=fun w=>by kernel_rfl
 v5:=fun w=>by kernel_rfl
 infoByte:=by kernel_rfl
 cellsByte:=by kernel_rfl
 sizeByte:=by kernel_rfl
 neB5:=oX
abbrev BIs (B b:Nat) (l:List UInt8) (w:Ab):Prop:=Lib.IsBuilderF 176 5 B b (Es l) w
theorem bc_app (a b:List UInt8):Es a++Es b=Es (a++b):=by unfold Es;rw[List.map_append]
theorem bc_len (a:List UInt8):(Es a).length=a.length:=by unfold Es;rw[Ax]
theorem WriteString_c (B b:Nat) (l:List UInt8) (s:ByteArray) (w:Ab) (h:BIs B b l w) (hlen:l.length+s.size<=140737488355328) (hBw:B<=w.heap.size) :
  Af A8 163 #[.pointer (A3 ⟨b,0,A0⟩),.string s] w fun e w'=>e=.returned (.tuple #[.int .i64 s.size,.nilIface])/\BIs B b (l++s.data.toList) w'/\Aa B w w'/\Kw 5 (A3 b) w w' :=
 Calls.mono (Any.Builder_WriteString_k layB166 extraB B b (Es l) s w h UQ hBw) fun e w' ⟨he,h1,h2,h3⟩=>⟨he,.inr (by rw[<- bc_app];exact h1),h2,h3⟩
theorem WriteByte_c (B b:Nat) (l:List UInt8) (c:UInt8) (w:Ab) (h:BIs B b l w) (hlen:l.length+1<=140737488355328) (hBw:B<=w.heap.size) :
  Af A8 182 #[.pointer (A3 ⟨b,0,A0⟩),.int .u8 c.toNat] w fun e w'=>e=.returned .nilIface/\BIs B b (l++[c]) w'/\Aa B w w'/\Kw 5 (A3 b) w w' :=
 Calls.mono (Any.Builder_WriteByte_k layB167 extraB B b (Es l) c.toNat w h UQ hBw) fun e w' ⟨he,h1,h2,h3⟩=>⟨he,.inr (by rw[<- bc_app];exact h1),h2,h3⟩
theorem WriteRune_c (B b:Nat) (l:List UInt8) (r:Nat) (hr:r<=65535) (w:Ab) (h:BIs B b l w) (hlen:l.length+4<=140737488355328) (hBw:B<=w.heap.size) :
  Af A8 162 #[.pointer (A3 ⟨b,0,A0⟩),.int .i32 r] w fun e w'=>(∃ n,e=.returned (.tuple #[.int .i64 n,.nilIface]))/\BIs B b (l++Lib.encodeRune r) w'/\Aa B w w'/\Kw 5 (A3 b) w w' :=
 Calls.mono (Any.Builder_WriteRune_k layB168 extraB B b (Es l) r oQ oQ w h UQ hBw) fun e w' ⟨he,h1,h2,h3⟩=>⟨⟨_,he⟩,.inr (by rw[<- bc_app,Lib.byteCells_encodeRune];exact h1),h2,h3⟩
end
theorem Tx.vint {k:IntKind}{a b:Int} (h:a=b):Value.int k a=Value.int k b:=by rw[h]
theorem r11_Number_c (s:ByteArray) (w:Ab) :
    Af A8 309 #[.string s] w fun e w'=>e=.returned (.tuple #[.int .i64 (((Nm.num s.data.toList).getD 0:Nat):Int),.bool (Nm.num s.data.toList).isSome])/\Aa w.heap.size w w':=by
  have HL:=zpk;go_enter Tryz.func309,Tryz.ntmps309;go_wp2
  all_goals try
    go_ret2
    have hn:Nm.num s.data.toList=A0:=by
      unfold Nm.num;rw[if_pos];rw[<- HL.out]
      first
        | omega
        | (refine .inr (.inr ⟨?_, by omega⟩)
           have h0:0<s.size:=oQ;have h48:((s[0]'h0).toNat:Int)=48:=oB;rw[L4,Ai eF];congr 1;apply UInt8.toNat.inj;have e:(48:UInt8).toNat=48:=rfl;rw[e];have:(s[0]'h0).toNat=48:=oQ;exact this)
    rw[hn];exact⟨rfl,Ah _ _⟩
  all_goals
    have hnum:Nm.num s.data.toList=L6 0 s.data.toList:=by
      unfold Nm.num;rw[if_neg];rw[<- HL.out];rintro (h | h | h)
      · omega
      · omega
      · have h0:0<s.size:=oQ
        have h1:=h.1;rw[L4,Ai eF]at h1;injection h1 with h1
        have h2:(s[0]'h0).toNat=48:=by
          have:=congrArg UInt8.toNat h1;exact this
        first
          | omega
          | exact absurd (show ((s[0]'h0).toNat:Int)=48 by omega) ‹_›
    have HN:=J hnum;clear hnum;go_loopw [4,5] (fun a i wr=>∃ (k v:Nat),k<=s.size/\i=.int .i64 k/\a=.int .i64 v/\v<10 ^ k/\Hid (L6 v (s.data.toList.drop k)=L6 0 s.data.toList)/\Aa w.heap.size w wr) (fun _ i _=>s.size - (intOf i).toNat)
    case atStart=>exact⟨0,0,Am _,rfl,rfl,oX,J iG,Ah _ _⟩
    case round =>
      obtain⟨k,v,hk,rfl,rfl,hv,hD,hb⟩:=hrel;by_cases hlt:k<s.size
      · have hv9:v<1000000000:=by
          have:10 ^ k<=10 ^ 9:=Nat.pow_le_pow_right oQ oQ;omega
        have hb0:((s[k]'hlt).toNat:Int)<256:=by have:=(s[k]'hlt).toNat_lt;omega
        have hst:s.data.toList.drop k=s[k]'hlt::s.data.toList.drop (k+1):=by
          rw[List.drop_eq_getElem_cons iJ];rfl
        have hsr:L6 v (s.data.toList.drop k)=if 48<=(s[k]'hlt).toNat/\(s[k]'hlt).toNat<=57 then L6 (v*10+((s[k]'hlt).toNat - 48)) (s.data.toList.drop (k+1)) else A0:=by
          rw[hst];simp only[L6,Lib.digitVal];by_cases hc:48<=(s[k]'hlt).toNat/\(s[k]'hlt).toNat<=57
          · rw[if_pos hc,if_pos hc]
          · rw[if_neg hc,if_neg hc]
        rw[hD.out]at hsr;have HS:=J hsr;clear hsr hst hD;have HV:=J hv;clear hv;go_wp2
        all_goals first
          | (go_ret2
             rw[HN.out,HS.out,if_neg oQ];exact⟨rfl,hb⟩)
          | (go_roundw
             case rel =>
               refine⟨k+1,v*10+((s[k]'hlt).toNat - 48),oQ,by go_num,Tx.vint ?_,?_,J ?_,hb⟩
               · omega
               · have h1:=HV.out
                 rw[Nat.pow_succ];omega
               · rw[HS.out,if_pos oQ]
             case measure=>simp[intOf];omega)
      · go_wp2
        go_ret2;have hd:=zer;rw[hd]at hD;rw[HN.out,<- hD.out];exact⟨rfl,hb⟩
theorem Atoi_c (s:ByteArray) (w:Ab) (hs:s.size<=281474976710656) (hG:G w) :
  Af A8 310 #[.string s] w fun e w'=>∃ (v:Int) (err:Ak),e=.returned (.tuple #[.int .i64 v,err])/\Aa w.heap.size w w' /\
   ((err=.nilIface/\L7 s.data.toList=.ok v)\/(∃ t p,err=.iface t p/\∀ x,L7 s.data.toList=.ok x->False)):=by
 obtain⟨te,pe,he⟩:=hG.es;obtain⟨tr,pr,hr⟩:=hG.er;rcases h:L7 s.data.toList with v | _ | _
 ·refine (Tryz.strconv_Atoi_ok s oQ v h w).mono fun e w' ⟨h1,h2⟩=>⟨v,.nilIface,h1,?_,.inl ⟨rfl,rfl⟩⟩;rcases h2 with rfl | ⟨t,rfl⟩
  ·exact Ah _ _
  ·exact Lib.bytesWorld_below _ _ _
 ·refine (Any.strconv_Atoi_syntax Tryz.laysC172 s hs h _ w he (.inr ⟨te,pe,rfl⟩)).mono fun e w' ⟨N,h1,_,_,hb⟩=>⟨0,_,h1,hb,.inr ⟨_,_,rfl,fun x hx=>by cases hx⟩⟩
 ·refine (Any.strconv_Atoi_range Tryz.laysC172 s hs h _ w hr (.inr ⟨tr,pr,rfl⟩)).mono fun e w' ⟨N,h1,_,_,hb⟩=>⟨_,_,h1,hb,.inr ⟨_,_,rfl,fun x hx=>by cases hx⟩⟩
theorem Itoa_c (n:Int) (w:Ab) (h0:-9223372036854775808<=n) (h1:n<=9223372036854775807) (hG:G w) :
  Af A8 311 #[.int .i64 n] w fun e w'=>e=.returned (.string ⟨(Lib.itoa n).toArray⟩)/\Aa w.heap.size w w' :=
 (Tryz.strconv_Itoa n h0 h1 w hG.p).mono fun _ _ ⟨he,k,os,hw⟩=>⟨he,hw▸below_grown w k os⟩
theorem Tx.atoi_bound {l:List UInt8}{v:Int} (h:L7 l=.ok v):-9223372036854775808<=v/\v<=9223372036854775807:=by
 unfold L7 at h;split at h
 ·cases h
 ·simp only at h
  repeat' split at h
  all_goals first | (cases h;done) | (injection h with h;subst h;constructor <;> omega)
theorem yqg (h:P:=by
 go_wp2;go_roundg g'
 case measure=>omega
 case rel=>exact⟨pos+K,oQ,oQ,HI.out,hbw2,J (by rw[HS.out,if_neg oQ])⟩):P:=h
theorem yql (h:P:=by
 go_wp2;go_ret;exact⟨Tx.retb (by rw[HS.out,if_pos oQ]),hbw2⟩):P:=h
theorem text_Valid_c (s:ByteArray) (w:Ab) (hs:s.size<=9223372036854775000) (hG:G w) :
  Af A8 114 #[.string s] w fun e w'=>e=.returned (.bool (AE s.data.toList))/\Aa w.heap.size w w':=by
 have hT:=hG.u;have hve:=Tx.valid_two s.data.toList.length s.data.toList (Ad _);cases hvd:Lib.validD s.data.toList with
 | false =>
  rw[hvd]at hve;have HE:Hid (AE s.data.toList=false):=J (by rw[<- hve];rfl);clear hve;have HD:=J hvd;clear hvd;go_enter Tryz.func114,Tryz.ntmps114;go_wp2_with (go_at_call 194;refine (Any.utf8_ValidString Tryz.lays196 s _ oQ hT).mono ?_;rintro e w1 ⟨rfl,hb1⟩;rw[HD.out]);go_ret;exact⟨Tx.retb (by rw[HE.out]),hb1⟩
 | true =>
  rw[hvd,Bool.true_and]at hve;have HE:=J hve;clear hve;have HD:=J hvd;clear hvd;go_enter Tryz.func114,Tryz.ntmps114;go_wp2_with (go_at_call 194;refine (Any.utf8_ValidString Tryz.lays196 s _ oQ hT).mono ?_;rintro e w1 ⟨rfl,hb1⟩;rw[HD.out]);go_loopg [4] s.size (fun gf _ wx=>∃ (pos:Nat),pos<=s.size/\s.size<=pos+gf/\wx.heap[w1.heap.size]?=A3 (.stringIter s pos)/\Aa w.heap.size w wx/\Hid (Tx.rangeOk (s.data.toList.drop pos).length (s.data.toList.drop pos)=AE s.data.toList))
  case atStart=>exact⟨0,Am _,oQ,World.iter_heap w1 s 0,hb1.alloc hb1.size _,J (by rw[List.drop_zero];exact HE.out)⟩
  case round =>
   obtain⟨pos,hps,hfu,hit,hbw,hR⟩:=hrel;by_cases hlt:pos<s.size
   ·obtain⟨g',rfl⟩:∃ g',gk=g'+1:=⟨gk - 1,oQ⟩;have hnx:∀ ty,(Instr.next (.pointer (A3 ⟨w1.heap.size,0,A0⟩)) true ty).run A8 wr=_:=fun ty=>Lib.run_next_any_at wr w1.heap.size s pos ty hit hlt;have hne:s.data.toList.drop pos≠[]:=Tx.drop_ne iJ
    have hwl:(Lib.decodeL (s.data.toList.drop pos)).2<=s.size - pos:=by
     rw[Lib.decodeL_N];have:=Lib.decodeN_le_n' (s.data.toList.drop pos).length ((s.data.toList.drop pos).getD 0 0).toNat ((s.data.toList.drop pos).getD 1 0).toNat ((s.data.toList.drop pos).getD 2 0).toNat ((s.data.toList.drop pos).getD 3 0).toNat uD;rw[Ay,<- Ao]at this;rw[Ay,<- Ao];exact this
    have hwd:=Lib.decodeL_width (s.data.toList.drop pos);have hru:=Lib.decodeL_rune (s.data.toList.drop pos);have hst:=Tx.rangeOk_step hne;rw[BQ,hR.out]at hst;rw[Lib.decodeL_drop]at hwl hwd hru hst;obtain⟨R,hR1⟩:∃ R,(Utf8.decode s pos).1=R:=⟨_,rfl⟩;obtain⟨K,hK1⟩:∃ K,(Utf8.decode s pos).2=K:=⟨_,rfl⟩;rw[hR1,hK1]at hnx;rw[hR1,hK1]at hst;rw[hK1]at hwl hwd;rw[hR1]at hru;have hit2:=Lib.iterAt_heap wr w1.heap.size s pos (pos+K) hit;have hbw2:=Lib.below_iterAt hbw (k:=w1.heap.size) hb1.size s (pos+K);obtain⟨W,hWd⟩:∃ W,wr.iterAt w1.heap.size s (pos+K)=W:=⟨_,rfl⟩;rw[hWd]at hnx hit2 hbw2;have HS:=J hst;clear hst hne hit hbw hR hWd hR1 hK1;have HI:=J hit2;clear hit2;by_cases c1:R<32
    ·exact yql
    ·by_cases c2:127<=R/\R<=159
     ·obtain⟨c2,c3⟩:=c2;exact yql
     ·by_cases c4:65535<R
      ·by_cases c5:127<=R
       ·have c6:159<R:=oQ;exact yql
       ·omega
      ·by_cases c5:127<=R
       ·have c6:159<R:=oQ;exact yqg
       ·have c6:R<127:=oQ;exact yqg
   ·obtain rfl:pos=s.size:=oQ;have hnx:∀ ty,(Instr.next (.pointer (A3 ⟨w1.heap.size,0,A0⟩)) true ty).run A8 wr=_:=fun ty=>Lib.run_next_end_at wr w1.heap.size s s.size ty hit hlt;have hnil:s.data.toList.drop s.size=[]:=AS aK;have HF:Hid (AE s.data.toList=true):=J (by rw[<- hR.out,hnil];rfl);clear hR hnil hit;go_wp2;go_ret;exact⟨Tx.retb (by rw[HF.out]),hbw⟩
end Go.Proofs.YtlakomilichhnaaGreatDoor
