/- Parts. -/
import Derived.Test.YtlakomilichhnaaGreatDoorROo
import Derived.Test.YtlakomilichhnaaGreatDoorROm
namespace Go.Proofs.YtlakomilichhnaaGreatDoor
set_option maxHeartbeats 6400000
set_option maxRecDepth 100000
open Go.RowKit
open Go renaming Addr->Aq,Calls->Af,Value->Ak,World->Ab,cell_later->A4
open Ix renaming keyS->LG,skey->LF
open Lib renaming compareInt->DR,hid->J,size_eq->Ao,toList_data->AG
open List renaming drop_eq_nil_of_le->AS,length_append->Ag,length_cons->AH,length_drop->Ay,length_take->Az,map_cons->BX,mem_cons_of_mem->BH,mem_cons_self->B8,sum_cons->Lf,take_length->At,take_of_length_le->Dq
open Nat renaming le_refl->Ad,le_trans->Au,zero_le->Am
open Option renaming none->A0,some->A3
open Proofs.Tryz renaming prog->A8,underlying112->IE
open Rc renaming FldA->Bz,Rd->Ci,author->FU,bys->LV,title->E4,year->DQ
open RowKit renaming Below->Aa
open RowKit.Below renaming refl->Ah
open Sr renaming skip->IZ
open Tx renaming clean->Je,retb->AX,step->Ac,valid->AE
open Vm renaming upd->H7,upd_other->C3,upd_same->EV
variable {P:Prop}
namespace Rc
end Rc
namespace Sr
theorem compareBytes_eq:∀ a b:By,Lib.compareBytes a b=cmpB a b
 | [],[]=>oX
 | [],b::s2=>by
  unfold cmpB Cp.ltB;rw[if_pos (decide_eq_true (List.nil_lt_cons b s2))];rfl
 | a::s1,[]=>by
  unfold cmpB Cp.ltB;rw[if_neg oZ,if_neg oZ];rfl
 | a::s1,b::s2=>by
  have ih:=compareBytes_eq s1 s2;unfold Lib.compareBytes;by_cases h1:a<b
  ·rw[if_pos h1];unfold cmpB Cp.ltB;rw[if_pos (decide_eq_true (List.cons_lt_cons_iff.2 (.inl h1)))]
  ·rw[if_neg h1];by_cases h2:b<a
   ·rw[if_pos h2];unfold cmpB Cp.ltB;have hne:a≠b:=fun e=>h1 (by rw[e]at h2 ⊢;exact h2);rw[if_neg,if_neg]
    ·intro e;injection e with e;exact hne e
    ·rw[decide_eq_true_eq,List.cons_lt_cons_iff];rintro (h | ⟨h,_⟩)
     ·exact h1 h
     ·exact hne h
   ·rw[if_neg h2,ih]
    have e:a=b:=by
     rw[UInt8.not_lt]at h1 h2;exact UInt8.le_antisymm h2 h1
    subst e;unfold cmpB Cp.ltB
    have h3:(a::s1<a::s2)↔s1<s2:=by
     rw[List.cons_lt_cons_iff];exact⟨fun h=>h.elim (fun h=>absurd h h1) (·.2),fun h=>.inr ⟨rfl,h⟩⟩
    by_cases h4:s1<s2
    ·rw[if_pos (decide_eq_true h4),if_pos (decide_eq_true (h3.2 h4))]
    ·rw[if_neg (c:=decide (s1<s2)=true) (fun h=>h4 (of_decide_eq_true h)),if_neg (c:=decide (a::s1<a::s2)=true) (fun h=>h4 (h3.1 (of_decide_eq_true h)))];by_cases h5:s1=s2
     ·rw[if_pos h5,if_pos (by rw[h5])]
     ·rw[if_neg h5,if_neg (fun h=>h5 (by injection h))]
noncomputable def artF:Lit->Option Ak :=
 H7 (H7 (H7 (H7 (fun _=>A0) (.string [101,110,103]) (.string ⟨#[32,116,104,101,32,97,32,97,110,32]⟩)) (.string [103,101,114]) (.string ⟨[32,100,101,114,32,100,105,101,32,100,97,115,32,101,105,110,32,101,105,110,101,32].toArray⟩)) (.string [115,119,101]) (.string ⟨[32,101,110,32,101,116,116,32,100,101,110,32,100,101,116,32,100,101,32].toArray⟩)) (.string [115,112,97]) (.string ⟨[32,101,108,32,108,97,32,108,111,115,32,108,97,115,32,117,110,32,117,110,97,32].toArray⟩)
theorem artF_at (lang:By):(artF (.string lang)).getD (.string ⟨#[]⟩)=.string ⟨(artM lang).toArray⟩:=by
 unfold artF artM;have e:∀ x:By,lang≠x->(Lit.string lang:Lit)≠.string x:=fun x h h9=>h (by injection h9);by_cases h1:lang=[101,110,103]
 ·subst h1;rw[C3 _ _ (e _ oX),C3 _ _ (e _ oX),C3 _ _ (e _ oX),EV,if_pos rfl];rfl
 ·by_cases h2:lang=[103,101,114]
  ·subst h2;rw[C3 _ _ (e _ oX),C3 _ _ (e _ oX),EV,if_neg oX,if_pos rfl];rfl
  ·by_cases h3:lang=[115,119,101]
   ·subst h3;rw[C3 _ _ (e _ oX),EV,if_neg oX,if_neg oX,if_pos rfl];rfl
   ·by_cases h4:lang=[115,112,97]
    ·subst h4;rw[EV,if_neg oX,if_neg oX,if_neg oX,if_pos rfl];rfl
    ·rw[C3 _ _ (e _ h4),C3 _ _ (e _ h3),C3 _ _ (e _ h2),C3 _ _ (e _ h1),if_neg h1,if_neg h2,if_neg h3,if_neg h4];rfl
end Sr
namespace Vm
section
variable {k : TypeId} {w w' : Ab} {M n : Nat} {f : Lit -> Option Ak} {ops : Array Oper} {rest : List Oper} {o : Oper} {a : Act} {Q : Exit -> Act -> Ab -> Prop}
theorem ins_step (hp:Map k w M n f) (hn:n<maxLen) (K:Maps.Keyed A8 k) {key:Ak}{kl:Lit} (hkey:keyOf A8 k key=A3 kl) (hkl:WideAt.IsKeyLit kl) (hg:o.guard=A0) (m x v:Operand) {t e:TypeId} (hop:o.op=Op.insert t m x v)
  (ht:A8.underlying t=A3 (.map k e)) (hm:a.eval m=.map (A3 M)) (hx:a.eval x=key) {u:Ak} (hv:a.eval v=u)
  (hK:∀ w',Map k w' M (n+1) (upd f kl u)->w.grownBy w' (A3 M)->wpList A8 ops Q rest (a.put o.dst undef) w'):wpList A8 ops Q (o::rest) a w:=by
 obtain⟨D,h1,h2⟩:=hp.d;refine wpList_plain hg fun K' hK'=>?_;obtain⟨w',hrun,r1,r2⟩:=h1.update K ht hn hkey (val:=u) (d:=.held u) (ps:=[]) rfl;unfold Oper.wp;simp[execOp,hop,hm,hx,hv,hrun,Result.andThen];exact hK' _ _ (hK w' ⟨⟨_,r1,h2.put (h1.tidy K).isMap hkl u⟩⟩ r2)
end
end Vm
theorem uxt (h:P:=by
 go_enter Tryz.func46,Tryz.ntmps46
 go_wp2_with (first
  |(go_at_call 103;(with_reducible refine (HC1.out _).mono ?_);rintro e w3 ⟨rfl,rfl⟩)
  |(go_at_call 103;(with_reducible refine (HC2.out _).mono ?_);rintro e w4 ⟨rfl,rfl⟩)
  |(go_at_call 104;(with_reducible refine (HK2.out _ hb1).mono ?_);rintro e w2 ⟨rfl,hb2⟩)
  |(go_at_call 104;(with_reducible refine HK1.out.mono ?_);rintro e w1 ⟨rfl,hb1⟩))
 go_ret;exact⟨rfl,Ac hb1 hb2⟩):P:=h
theorem collate_Compare_c (lang a b:ByteArray) (w:Ab) (hG:G w) (ha:a.size<=1000000) (hb:b.size<=1000000) (va:AE a.data.toList=true) (vb:AE b.data.toList=true) :
  Af A8 46 #[.string lang,.string a,.string b] w fun e w'=>e=.returned (.int .i64 (Sr.cmp lang.data.toList a.data.toList b.data.toList))/\Aa w.heap.size w w':=by
 obtain⟨X,hX⟩:=zhg;obtain⟨Y,hY⟩:=zhh;have hXd:=zkv;have hYd:=zkw;have K1:=Key_c lang a w hG ha va;have K2:∀ w',Aa w.heap.size w w'->_:=fun w' h=>Key_c lang b w' (hG.below h) hb vb;have C1:∀ w',Af A8 103 #[.string X,.string Y] w' fun e w''=>e=.returned (.int .i64 (Sr.cmpB X.data.toList Y.data.toList))/\w''=w':=fun w'=>by rw[<- Sr.compareBytes_eq];exact Tryz.strings_Compare X Y w'
 have C2:∀ w',Af A8 103 #[.string a,.string b] w' fun e w''=>e=.returned (.int .i64 (Sr.cmpB a.data.toList b.data.toList))/\w''=w':=fun w'=>by rw[<- Sr.compareBytes_eq];exact Tryz.strings_Compare a b w'
 have hE:=zbm;rw[hE];rw[hX]at K1;rw[hY]at K2;obtain⟨c,hc⟩:=zpa;obtain⟨d,hd⟩:∃ d,Sr.cmpB a.data.toList b.data.toList=d:=⟨_,rfl⟩;rw[hc]at C1;rw[hd]at C2;rw[hc,hd];have HK1:=J K1;have HK2:=J K2;have HC1:=J C1;have HC2:=J C2;by_cases h0:X.data.toList=Y.data.toList
 ·rw[if_pos h0];have hc0:c=0:=by rw[<- hc];exact Sr.cmpB_zero.2 h0
  subst hc0;clear K1 K2 C1 C2 hE hX hY hXd hYd hc hd h0 hG;exact uxt
 ·rw[if_neg h0];have hc0:(c != 0)=true:=bne_iff_ne.2 fun e=>h0 (Sr.cmpB_zero.1 (by rw[hc,e]));clear K1 K2 C1 C2 hE hX hY hXd hYd hc hd h0 hG;exact uxt
theorem articles_c (w:Ab):Af A8 97 #[] w fun e w'=>∃ M,e=.returned (.map (A3 M))/\Vm.Map 9 w' M 4 Sr.artF/\Aa w.heap.size w w':=by
 have hmm:=zmk;have hM0:Vm.Map 9 (w.alloc (.map #[] 0)) w.heap.size 0 (fun _=>A0):=Vm.Map.made 9 w;have hb0:Aa w.heap.size w (w.alloc (.map #[] 0)):=Tx.newb _ _;obtain⟨W,hW⟩:∃ W,w.alloc (.map #[] 0)=W:=⟨_,rfl⟩;rw[hW]at hM0 hb0;have hWs:w.heap.size<=W.heap.size:=hb0.size;go_enter Tryz.func97,Tryz.ntmps97
 go_wp2_with (first
  |(refine Vm.ins_step hM3 oX LF (LG [115,112,97] oX) trivial rfl _ _ _ rfl IE rfl rfl rfl ?_;intro w4 hM4 hg4)
  |(refine Vm.ins_step hM2 oX LF (LG [115,119,101] oX) trivial rfl _ _ _ rfl IE rfl rfl rfl ?_;intro w3 hM3 hg3)
  |(refine Vm.ins_step hM1 oX LF (LG [103,101,114] oX) trivial rfl _ _ _ rfl IE rfl rfl rfl ?_;intro w2 hM2 hg2)
  |(refine Vm.ins_step hM0 oX LF (LG [101,110,103] oX) trivial rfl _ _ _ rfl IE rfl rfl rfl ?_;intro w1 hM1 hg1))
 go_ret;have s1:=hg1.size;have s2:=hg2.size;have s3:=hg3.size;exact⟨_,rfl,hM4,(((hb0.grown hg1 hWs yQ).grown hg2 oQ yQ).grown hg3 oQ yQ).grown hg4 oQ yQ⟩
theorem cut_sp_c (s:ByteArray) (w:Ab) (hs:s.size<=1000000) (hG:G w) {p q:ByteArray}{b:Bool} (h:Lib.cut s.data.toList [32]=(p.data.toList,q.data.toList,b)) :
  Af A8 93 #[.string s,.string ⟨#[32]⟩] w fun e w'=>e=.returned (.tuple #[.string p,.string q,.bool b])/\Aa w.heap.size w w':=by
 obtain⟨m,hm⟩:=hG.m;refine (Tryz.strings_Cut s ⟨#[32]⟩ m w oQ hm).mono ?_;rintro e w' ⟨he,n,rfl⟩;have h2:Lib.cut s.data.toList (⟨#[32]⟩:ByteArray).data.toList=(p.data.toList,q.data.toList,b):=h;rw[h2]at he;exact⟨he,Tx.below_drewN (Ah _ _) n⟩
theorem has_sp_c (s:ByteArray) (w:Ab) (hs:s.size<=100000000) (hG:G w) :
  Af A8 96 #[.string s,.string ⟨#[32]⟩] w fun e w'=>e=.returned (.bool (decide ((32:UInt8)∈s.data.toList)))/\w'=w:=by
 obtain⟨m,hm⟩:=hG.m;have h:=Tryz.strings_Contains s ⟨#[32]⟩ m w oQ hm;rw[<- Sr.contains_blank];exact h
theorem has_art_c (lang:Sr.By) (x s z:ByteArray) (w:Ab) (hs:s.size<=100000000) (hG:G w) (he:s.data.toList=Sr.artM lang) (hz:z.data.toList=32::(x.data.toList++[32])) (hx:(32:UInt8) ∉ x.data.toList) :
  Af A8 96 #[.string s,.string z] w fun e w'=>e=.returned (.bool (decide (x.data.toList∈Sr.arts lang)))/\w'=w:=by
 obtain⟨m,hm⟩:=hG.m;have h:=Tryz.strings_Contains s z m w oQ hm;rw[he,hz,Sr.contains_art hx]at h;exact h
namespace Sr
theorem artM_len (lang:By):(artM lang).length<=30:=by
 unfold artM
 repeat' split
 all_goals decide
theorem szeroS (w:Ab):(zeroValue 9).run A8 w=.ok (.string ⟨#[]⟩) w:=by kernel_rfl
end Sr
theorem uaz (h:P:=by
 go_enter Tryz.func42,Tryz.ntmps42
 go_wp2_with (first
  |(go_at_call 93;(with_reducible refine HC.out.mono ?_);rintro e w1 ⟨rfl,hb1⟩)
  |(go_at_call 94;(with_reducible refine (HT.out _).mono ?_);rintro e w2 ⟨rfl,rfl⟩)
  |(go_at_call 95;(with_reducible refine (HF.out _ hb1).mono ?_);rintro e w3 ⟨rfl,hb3⟩;have hb13:=Ac hb1 hb3)
  |(go_at_call 96;rw[HZ.out];(with_reducible refine (HC3.out _ hb15).mono ?_);rintro e w6 ⟨rfl,rfl⟩)
  |(go_at_call 96;(with_reducible refine (HC2.out _ hb13).mono ?_);rintro e w4 ⟨rfl,rfl⟩)
  |(go_at_call 97;(with_reducible refine (articles_c _).mono ?_);rintro e w5 ⟨M,rfl,hM,hb5⟩;have hb15:=Ac hb13 hb5;have hrun:=hAk.out M w5 hM)
  |(go_at_call 95;(with_reducible refine (HF.out _ hb1).mono ?_);rintro e w3 ⟨rfl,hb3⟩))
 first
  |go_ret
   exact⟨Tx.rets rfl,Ac hb1 hb3⟩
  |go_ret
   exact⟨Tx.rets rfl,hb13⟩
  |go_ret
   exact⟨Tx.rets rfl,hb15⟩
  |go_ret
   exact⟨rfl,hb1⟩):P:=h
theorem Skip_c (lang s:ByteArray) (w:Ab) (hG:G w) (hs:s.size<=1000000) (hl:lang.size<=1000000) (hv:AE s.data.toList=true) :
  Af A8 42 #[.string lang,.string s] w fun e w'=>e=.returned (.string ⟨(IZ lang.data.toList s.data.toList).toArray⟩)/\Aa w.heap.size w w':=by
 have hsame:=zip;rcases Sr.split_blank s.data.toList with h0 | ⟨w0,r,he,h0⟩
 ·rw[Sr.skip_none h0,hsame rfl];have CC:=cut_sp_c s w hs hG (p:=s) (q:=⟨#[]⟩) (b:=false) (Sr.cut_none h0);have HC:=zik;clear CC hsame h0 hG hv;exact uaz
 ·obtain⟨P,hP⟩:∃ P:ByteArray,P.data.toList=w0:=⟨⟨w0.toArray⟩,rfl⟩;obtain⟨R,hR⟩:∃ R:ByteArray,R.data.toList=r:=⟨⟨r.toArray⟩,rfl⟩;subst hP hR;rw[he,Sr.skip_cut h0];have CC:=cut_sp_c s w hs hG (p:=P) (q:=R) (b:=true) (by rw[he];exact Sr.cut_at h0);have hse:=hsame he;have HC:=zik
  have hsz:P.size+1+R.size=s.size:=by
   have:=congrArg List.length he;rw[Ag,AH,<- Ao,<- Ao,<- Ao]at this;omega
  rw[he]at hv;have hPv:=(Hd.valid_cut (c:=32) oX _ P.data.toList R.data.toList (Ad _) hv).1;clear CC hv;by_cases hPe:P.data.toList=[]
  ·rw[if_neg (by rw[hPe];exact fun h=>Sr.arts_nil h.1),hse];have ht:(P.toList == [])=true:=by rw[AG,hPe];rfl
   clear hsame hse h0 he hPe hPv hG;exact uaz
  ·have ht:(P.toList == [])=false:=by rw[AG];simpa using hPe
   obtain⟨Q,hQ⟩:∃ Q:ByteArray,Q.data.toList=R.data.toList.dropWhile (· == 32):=⟨⟨(R.data.toList.dropWhile (· == 32)).toArray⟩,rfl⟩;obtain⟨X,hX⟩:∃ X:ByteArray,X.data.toList=Tx.foldS P.data.toList:=⟨⟨(Tx.foldS P.data.toList).toArray⟩,rfl⟩;have hXl:X.size<=2*P.size:=by rw[Ao,hX,Ao];exact Tx.foldS_len hPv
   have hQe:(⟨(R.data.toList.dropWhile (· == 32)).toArray⟩:ByteArray)=Q:=by rw[<- hQ]
   have TC:∀ w',Af A8 94 #[.string R,.string ⟨#[32]⟩] w' fun e w''=>e=.returned (.string Q)/\w''=w':=fun w'=>by
    have:=Tryz.strings_TrimLeft_one R 32 oX w';rw[Sr.trim_blanks,hQe]at this;exact this
   have FC:∀ w',Aa w.heap.size w w'->Af A8 95 #[.string P] w' fun e w''=>e=.returned (.string X)/\Aa w'.heap.size w' w'':=fun w' h=>by
    have:=text_Fold_c P w' (hG.below h) oQ hPv;rw[<- hX]at this;exact this
   have HC2:Hid (∀ w',Aa w.heap.size w w'->Af A8 96 #[.string X,.string ⟨#[32]⟩] w' fun e w''=>e=.returned (.bool (decide ((32:UInt8)∈X.data.toList)))/\w''=w'):=J fun w' h=>has_sp_c X w' oQ (hG.below h);have HT:=J TC;have HF:=J FC;have HG:=J hG;rw[<- hX,<- hQ];clear TC FC hG;by_cases hQn:Q.data.toList=[]
   ·rw[if_neg (fun h=>h.2 hQn),hse];have hq:(Q.toList == [])=true:=by rw[AG,hQn];rfl
    clear hsame hse h0 he hPe hPv hQ hX hQe hQn;exact uaz
   ·have hq:(Q.toList == [])=false:=by rw[AG];simpa using hQn
    by_cases hX32:(32:UInt8)∈X.data.toList
    ·rw[if_neg (fun h=>Sr.arts_no hX32 h.1),hse];rw[decide_eq_true hX32]at HC2;clear hsame hse h0 he hPe hPv hQ hX hQe hQn hX32;exact uaz
    ·rw[decide_eq_false hX32]at HC2;obtain⟨A,hA⟩:∃ A:ByteArray,A.data.toList=Sr.artM lang.data.toList:=⟨⟨(Sr.artM lang.data.toList).toArray⟩,rfl⟩;have hAs:A.size<=30:=by rw[Ao,hA];exact Sr.artM_len _
     obtain⟨Z,hZ⟩:∃ Z:ByteArray,(⟨#[32]⟩++X)++⟨#[32]⟩=Z:=⟨_,rfl⟩;have hZd:Z.data.toList=32::(X.data.toList++[32]):=by rw[<- hZ];simp
     have HZ:=J hZ
     have hAk:Hid (∀ (M:Nat) (w':Ab),Vm.Map 9 w' M 4 Sr.artF->(Instr.lookup 112 (.map (A3 M)) (.string lang) false).run A8 w'=.ok (.string A) w'):=J fun M w' hM =>
      hM.look LF IE (Sr.szeroS w') (kl:=.string lang.data.toList) (LG lang.data.toList aK) (by rw[Sr.artF_at,<- hA])
     have HC3:Hid (∀ w',Aa w.heap.size w w'->Af A8 96 #[.string A,.string Z] w' fun e w''=>e=.returned (.bool (decide (X.data.toList∈Sr.arts lang.data.toList)))/\w''=w'):=J fun w' h=>has_art_c lang.data.toList X A Z w' oQ (HG.out.below h) hA hZd hX32;by_cases hin:X.data.toList∈Sr.arts lang.data.toList
     ·rw[if_pos ⟨hin,hQn⟩];rw[decide_eq_true hin]at HC3;clear hsame hse h0 he hPe hPv hX hQe hQn hX32 hA hZ hZd hin hQ;exact uaz
     ·rw[if_neg (fun h=>hin h.1),hse];rw[decide_eq_false hin]at HC3;clear hsame hse h0 he hPe hPv hX hQe hQn hX32 hA hZ hZd hin hQ;exact uaz
namespace Sr
open Rc
structure Rg (r:Rd):Prop where
 gd:∀ f∈r.fields,Gd f
 mod:Ix.Mod r.fields
 tl:(title r.fields).length<=1000000
 tv:AE (title r.fields)=true
 al:(author r.fields).length<=1000000
 av:AE (author r.fields)=true
 lg:r.lang.size<=1000000
 tag:∀ f∈r.fields,f.tag.data.toList.length=3
 ids:0<=r.id/\r.id<=1000000000
def or2 (a b:Int):Int:=if a≠0 then a else b
def cmpR (by_:Int) (lang:By) (x y:RT):Int:=or2 (firstP by_ lang x.1 y.1) (DR x.1.id y.1.id)
theorem cmpR_lt (by_:Int) (lang:By) (x y:RT):ltV (vals by_ lang x.1) (vals by_ lang y.1)=decide (cmpR by_ lang x y<0):=by
 rw[Bool.eq_iff_iff,decide_eq_true_eq,<- firstP_lt];unfold cmpR or2 DR;by_cases h:firstP by_ lang x.1 y.1=0
 ·rw[h,if_neg oZ];by_cases h1:x.1.id<y.1.id
  ·rw[if_pos h1];simp[h1]
  ·rw[if_neg h1];by_cases h2:x.1.id > y.1.id
   ·rw[if_pos h2];simp[h1]
   ·rw[if_neg h2];simp[h1]
 ·rw[if_pos h];constructor
  ·rintro (h1 | h1)
   ·exact h1
   ·exact absurd h1.1 h
  ·exact .inl
end Sr
theorem sr_or2_c (a b:Int) (X:Nat) (w:Ab) (c0:w.cell? ⟨X,0,A0⟩=A3 (.int .i64 a)) (c1:w.cell? ⟨X,1,A0⟩=A3 (.int .i64 b)) :
  Af A8 50 #[.slice (A3 ⟨X,0,A0⟩) 2 2] w fun e w'=>e=.returned (.int .i64 (Sr.or2 a b))/\w=w':=by
 go_enter Tryz.func50,Tryz.ntmps50;go_wp2;go_loop [8] (fun i=>∃ (k:Nat),k<=2/\i=.int .i64 k/\(1<=k->a=0)/\(2<=k->b=0)) (fun i=>2 - (intOf i).toNat)
 case atStart=>exact⟨0,oQ,by go_num,fun h=>oQ,fun h=>oQ⟩
 case round =>
  obtain⟨k,hk,rfl,ha,hb⟩:=hrel;rcases (by omega:k=0\/k=1\/k=2) with rfl | rfl | rfl
  ·cases hq:(a != 0) with
   | true =>
    have HR:Hid (Sr.or2 a b=a):=J (if_pos iB);clear ha hb;go_wp2;go_ret;exact⟨by rw[HR.out];rfl,rfl⟩
   | false =>
    have ha0:=J (show a=0 by simpa using hq);clear ha hb;go_wp2;go_round
    case rel=>exact⟨1,oQ,by go_num,fun _=>ha0.out,fun h=>oQ⟩
    case measure=>simp[intOf]
  ·have ha0:=zlu;clear ha hb;have HR:Hid (Sr.or2 a b=b):=J (by unfold Sr.or2;rw[if_neg yF]);cases hq:(b != 0) with
   | true =>
    go_wp2;go_ret;exact⟨by rw[HR.out];rfl,rfl⟩
   | false =>
    have hb0:=J (show b=0 by simpa using hq);go_wp2;go_round
    case rel=>exact⟨2,oQ,by go_num,fun _=>ha0.out,fun _=>hb0.out⟩
    case measure=>simp[intOf]
  ·have ha0:=zlu;have hb0:=J (hb oQ);clear ha hb;have HR:Hid (Sr.or2 a b=0):=J (by unfold Sr.or2;rw[if_neg yF,hb0.out]);go_wp2;go_ret;exact⟨by rw[HR.out];rfl,rfl⟩
theorem yze (h:P:=by
 go_split_ands;have hb9:=zff;go_wp2;go_ret;exact⟨rfl,Ac hB hb9⟩):P:=h
theorem sr_title_c (r:Ci) (a:Option Aq) (c:Nat) (w:Ab) (hG:G w) (h:Bz w a c r.fields) (hR:Sr.Rg r) :
  Af A8 41 #[.agg #[.int .i64 r.id,.int .i64 r.ver,.int .i64 r.kind,.string r.lang,.slice a r.fields.length c]] w fun e w'=>e=.returned (.string ⟨(IZ r.lang.data.toList (E4 r.fields)).toArray⟩)/\Aa w.heap.size w w':=by
 obtain⟨W,hW,hB,c0,c1,c2,c3,c4⟩:=Tx.ent5 w (.int .i64 r.id) (.int .i64 r.ver) (.int .i64 r.kind) (.string r.lang) (.slice a r.fields.length c) 51;obtain⟨T,hT⟩:∃ T:ByteArray,(⟨(E4 r.fields).toArray⟩:ByteArray)=T:=⟨_,rfl⟩;have hTd:E4 r.fields=T.data.toList:=by rw[<- hT]
 have hTs:T.size<=1000000:=by rw[Ao,<- hTd];exact hR.tl
 have hTv:AE T.data.toList=true:=by rw[<- hTd];exact hR.tv
 have TC:∀ W',Aa W.heap.size W W'->_:=fun W' hb=>record_Title_c r.fields a c r.id r.ver r.kind r.lang W' ((h.below hB).below hb) hR.gd;rw[hT]at TC;have SC:∀ W',Aa W.heap.size W W'->_:=fun W' hb=>Skip_c r.lang T W' ((hG.below hB).below hb) hTs hR.lg hTv;rw[hTd];have HT:=J TC;have HS:=J SC;clear TC SC hT hTd hTs hTv hG h hR;go_enter Tryz.func41,Tryz.ntmps41;go_wp2;clear hW
 go_region_held3 (fun w'=>Aa W.heap.size W w'/\w'.cell? ⟨w.heap.size,0,A0⟩=A3 (.int .i64 r.id)/\w'.cell? ⟨w.heap.size,1,A0⟩=A3 (.int .i64 r.ver)/\w'.cell? ⟨w.heap.size,2,A0⟩=A3 (.int .i64 r.kind)/\w'.cell? ⟨w.heap.size,3,A0⟩=A3 (.string r.lang)/\w'.cell? ⟨w.heap.size,4,A0⟩=A3 (.slice a r.fields.length c))
  (first | exact⟨(Ah _ _).drew,c0,c1,c2,c3,c4⟩ | (go_split_ands;exact⟨Ac ‹_› hbx,by repeat' first | exact A4 hbx ‹_› | constructor⟩))
  (first
   |(go_split_ands;go_at_call 42;((with_reducible refine (HS.out _ ‹_›).mono ?_);rintro e wx ⟨rfl,hbx⟩))
   |(go_split_ands;go_at_call 43;((with_reducible refine (HT.out _ ‹_›).mono ?_);rintro e wx ⟨rfl,hbx⟩)))
 exact yze
namespace Sr
structure Cap3 (w:Ab) (X Y Z:Nat) (by_:Int) (lang:ByteArray):Prop where
 c0:w.cell? ⟨X,0,A0⟩=A3 (.int .i64 by_)
 c1:w.cell? ⟨Y,0,A0⟩=A3 (.string lang)
 c2:w.cell? ⟨Z,0,A0⟩=A3 (.func (.func 41) #[] #[])
theorem Cap3.below {w w':Ab}{X Y Z:Nat}{by_:Int}{lang:ByteArray} (h:Cap3 w X Y Z by_ lang) (hb:Aa w.heap.size w w'):Cap3 w' X Y Z by_ lang:=⟨A4 hb h.c0,A4 hb h.c1,A4 hb h.c2⟩
theorem first1 {by_:Int}{lang:By}{x y:Ci} (h:by_=1):firstP by_ lang x y=cmp lang (skip x.lang.data.toList (E4 x.fields)) (skip y.lang.data.toList (E4 y.fields)):=by unfold firstP;rw[if_pos h]
theorem first2 {by_:Int}{lang:By}{x y:Ci} (h:by_=2):firstP by_ lang x y=cmp lang (FU x.fields) (FU y.fields):=by unfold firstP;rw[if_neg oQ,if_pos h]
theorem first3 {by_:Int}{lang:By}{x y:Ci} (h:by_=3):firstP by_ lang x y=DR (DQ y.fields:Int) (DQ x.fields:Int):=by unfold firstP;rw[if_neg oQ,if_neg oQ,if_pos h]
theorem first0 {by_:Int}{lang:By}{x y:Ci} (h1:by_≠1) (h2:by_≠2) (h3:by_≠3):firstP by_ lang x y=0:=by unfold firstP;rw[if_neg h1,if_neg h2,if_neg h3]
end Sr
theorem ywl (h:P:=by
 go_split_ands;have hb9:=zff;have HB9:=J hb9;have z0:=A4 hb9 a0;have z1:=A4 hb9 b0
 go_wp2_with (first
  |(go_at_call 48;(with_reducible refine (HCD.out _).mono ?_);rintro e w8 ⟨rfl,rfl⟩)
  |(go_at_call 50;refine (sr_or2_c F D w8.heap.size _ oZ oZ).mono ?_;rintro e w7 ⟨rfl,rfl⟩))
 go_ret;exact⟨rfl,Ac hB (HB9.out.alloc HB9.out.size _)⟩):P:=h
theorem v1s (h:P:=by
 obtain⟨P,hP⟩:∃ P:ByteArray,(⟨(FU x.fields).toArray⟩:ByteArray)=P:=⟨_,rfl⟩;obtain⟨Q,hQ⟩:∃ Q:ByteArray,(⟨(FU y.fields).toArray⟩:ByteArray)=Q:=⟨_,rfl⟩;have hPd:FU x.fields=P.data.toList:=by rw[<- hP]
 have hQd:FU y.fields=Q.data.toList:=by rw[<- hQ]
 first
  |have TX:∀ W',Aa W.heap.size W W'->_:=fun W' hb=>record_Author_c x.fields xa xc x.id x.ver x.kind x.lang W' ((hx.below hB).below hb)
   have TY:∀ W',Aa W.heap.size W W'->_:=fun W' hb=>record_Author_c y.fields ya yc y.id y.ver y.kind y.lang W' ((hy.below hB).below hb);rw[hP]at TX;rw[hQ]at TY;have CC:∀ W',Aa W.heap.size W W'->_:=fun W' hb=>collate_Compare_c lang P Q W' ((hG.below hB).below hb) zsq zsr (by rw[<- hPd];exact hRx.av) (by rw[<- hQd];exact hRy.av);rw[<- hPd,<- hQd,hF]at CC;have HTX:=J TX;have HTY:=J TY;have HCC:=zik;subst h2;clear TX TY CC hP hQ hPd hQd hF hG hx hy hRx hRy hC h1;go_enter Tryz.func45,Tryz.ntmps45;go_wp2;clear hW
   go_region_held3 (fun w'=>Aa W.heap.size W w'/\w'.cell? ⟨w.heap.size,0,A0⟩=A3 (.int .i64 x.id)/\w'.cell? ⟨w.heap.size,1,A0⟩=A3 (.int .i64 x.ver)/\w'.cell? ⟨w.heap.size,2,A0⟩=A3 (.int .i64 x.kind)/\w'.cell? ⟨w.heap.size,3,A0⟩=A3 (.string x.lang)/\w'.cell? ⟨w.heap.size,4,A0⟩=A3 (.slice xa x.fields.length xc)/\w'.cell? ⟨w.heap.size+1,0,A0⟩=A3 (.int .i64 y.id)/\w'.cell? ⟨w.heap.size+1,1,A0⟩=A3 (.int .i64 y.ver)/\w'.cell? ⟨w.heap.size+1,2,A0⟩=A3 (.int .i64 y.kind)/\w'.cell? ⟨w.heap.size+1,3,A0⟩=A3 (.string y.lang)/\w'.cell? ⟨w.heap.size+1,4,A0⟩=A3 (.slice ya y.fields.length yc)/\w'.cell? ⟨X,0,A0⟩=A3 (.int .i64 2)/\w'.cell? ⟨Y,0,A0⟩=A3 (.string lang)/\w'.cell? ⟨Z,0,A0⟩=A3 (.func (.func 41) #[] #[]))
    (first | exact⟨(Ah _ _).drew,a0,a1,a2,a3,a4,b0,b1,b2,b3,b4,k0,k1,k2⟩ | (go_split_ands;exact⟨Ac ‹_› hbx,by repeat' first | exact A4 hbx ‹_› | constructor⟩))
    (first
     |(go_split_ands;go_at_call 46;((with_reducible refine (HCC.out _ ‹_›).mono ?_);rintro e wx ⟨rfl,hbx⟩))
     |(go_split_ands;go_at_call 47;((with_reducible refine (HTX.out _ ‹_›).mono ?_);rintro e wx ⟨rfl,hbx⟩))
     |(go_split_ands;go_at_call 47;((with_reducible refine (HTY.out _ ‹_›).mono ?_);rintro e wx ⟨rfl,hbx⟩)))
   exact ywl
  |have TX:∀ W',Aa W.heap.size W W'->_:=fun W' hb=>sr_authorR_c x xa xc W' ((hx.below hB).below hb) hRx
   have TY:∀ W',Aa W.heap.size W W'->_:=fun W' hb=>sr_authorR_c y ya yc W' ((hy.below hB).below hb) hRy;rw[hP]at TX;rw[hQ]at TY;have CC:∀ W',_:=fun W'=>r02_Compare_c lang P Q W' zsq zsr (by rw[<- hPd];exact hRx.av) (by rw[<- hQd];exact hRy.av);rw[<- hPd,<- hQd,hF]at CC;have HTX:=J TX;have HTY:=J TY;have HCC:=zik;subst h2;clear TX TY CC hP hQ hPd hQd hF hx hy hRx hRy h1;go_enter Tryz.func52,Tryz.ntmps52;go_wp2;clear hW
   go_region_held3 (fun w'=>Aa W.heap.size W w'/\w'.cell? ⟨w.heap.size,0,A0⟩=A3 (.int .i64 x.id)/\w'.cell? ⟨w.heap.size,1,A0⟩=A3 (.int .i64 x.ver)/\w'.cell? ⟨w.heap.size,2,A0⟩=A3 (.int .i64 x.kind)/\w'.cell? ⟨w.heap.size,3,A0⟩=A3 (.string x.lang)/\w'.cell? ⟨w.heap.size,4,A0⟩=A3 (.slice xa x.fields.length xc)/\w'.cell? ⟨w.heap.size+1,0,A0⟩=A3 (.int .i64 y.id)/\w'.cell? ⟨w.heap.size+1,1,A0⟩=A3 (.int .i64 y.ver)/\w'.cell? ⟨w.heap.size+1,2,A0⟩=A3 (.int .i64 y.kind)/\w'.cell? ⟨w.heap.size+1,3,A0⟩=A3 (.string y.lang)/\w'.cell? ⟨w.heap.size+1,4,A0⟩=A3 (.slice ya y.fields.length yc))
    (first | exact⟨(Ah _ _).drew,a0,a1,a2,a3,a4,b0,b1,b2,b3,b4⟩ | (go_split_ands;exact⟨Ac ‹_› hbx,by repeat' first | exact A4 hbx ‹_› | constructor⟩))
    (first
     |(go_split_ands;go_at_call 109;((with_reducible refine (HCC.out _).mono ?_);rintro e wx ⟨rfl,hbx⟩))
     |(go_split_ands;go_at_call 112;((with_reducible refine (HTX.out _ ‹_›).mono ?_);rintro e wx ⟨rfl,hbx⟩))
     |(go_split_ands;go_at_call 112;((with_reducible refine (HTY.out _ ‹_›).mono ?_);rintro e wx ⟨rfl,hbx⟩)))
   exact yze):P:=h
theorem v7z (h:P:=by
 obtain⟨W,hW⟩:∃ W,(w.alloc (.cells #[.int .i64 x.id,.int .i64 x.ver,.int .i64 x.kind,.string x.lang,.slice xa x.fields.length xc] 51)).alloc (.cells #[.int .i64 y.id,.int .i64 y.ver,.int .i64 y.kind,.string y.lang,.slice ya y.fields.length yc] 51)=W:=⟨_,rfl⟩;have hB:=zk;have a0:W.cell? ⟨w.heap.size,0,A0⟩=A3 (.int .i64 x.id):=by rw[<- hW];simp
 have a1:W.cell? ⟨w.heap.size,1,A0⟩=A3 (.int .i64 x.ver):=by rw[<- hW];simp
 have a2:W.cell? ⟨w.heap.size,2,A0⟩=A3 (.int .i64 x.kind):=by rw[<- hW];simp
 have a3:W.cell? ⟨w.heap.size,3,A0⟩=A3 (.string x.lang):=by rw[<- hW];simp
 have a4:W.cell? ⟨w.heap.size,4,A0⟩=A3 (.slice xa x.fields.length xc):=by rw[<- hW];simp
 have b0:W.cell? ⟨w.heap.size+1,0,A0⟩=A3 (.int .i64 y.id):=by rw[<- hW];simp
 have b1:W.cell? ⟨w.heap.size+1,1,A0⟩=A3 (.int .i64 y.ver):=by rw[<- hW];simp
 have b2:W.cell? ⟨w.heap.size+1,2,A0⟩=A3 (.int .i64 y.kind):=by rw[<- hW];simp
 have b3:W.cell? ⟨w.heap.size+1,3,A0⟩=A3 (.string y.lang):=by rw[<- hW];simp
 have b4:W.cell? ⟨w.heap.size+1,4,A0⟩=A3 (.slice ya y.fields.length yc):=by rw[<- hW];simp
 first
  |obtain⟨k0,k1,k2⟩:=hC.below hB
   have CI:∀ p q W',Af A8 48 #[.int .i64 p,.int .i64 q] W' fun e w'=>e=.returned (.int .i64 (DR p q))/\w'=W':=fun p q W'=>Tryz.cmp_Compare_int p q W';have HCI:=J CI;obtain⟨F,hF⟩:∃ F,Sr.firstP by_ lang.data.toList x y=F:=⟨_,rfl⟩;rw[hF];obtain⟨D,hD⟩:∃ D,DR x.id y.id=D:=⟨_,rfl⟩;have hCD:=CI x.id y.id;rw[hD]at hCD ⊢;have HCD:=J hCD;clear CI hCD hD;by_cases h1:by_=1
   ·rw[Sr.first1 h1]at hF;obtain⟨P,hP⟩:∃ P:ByteArray,(⟨(IZ x.lang.data.toList (E4 x.fields)).toArray⟩:ByteArray)=P:=⟨_,rfl⟩;obtain⟨Q,hQ⟩:∃ Q:ByteArray,(⟨(IZ y.lang.data.toList (E4 y.fields)).toArray⟩:ByteArray)=Q:=⟨_,rfl⟩;have hPd:IZ x.lang.data.toList (E4 x.fields)=P.data.toList:=by rw[<- hP]
    have hQd:IZ y.lang.data.toList (E4 y.fields)=Q.data.toList:=by rw[<- hQ]
    have TX:∀ W',Aa W.heap.size W W'->_:=fun W' hb=>sr_title_c x xa xc W' ((hG.below hB).below hb) ((hx.below hB).below hb) hRx;have TY:∀ W',Aa W.heap.size W W'->_:=fun W' hb=>sr_title_c y ya yc W' ((hG.below hB).below hb) ((hy.below hB).below hb) hRy;rw[hP]at TX;rw[hQ]at TY;have CC:∀ W',Aa W.heap.size W W'->_:=fun W' hb=>collate_Compare_c lang P Q W' ((hG.below hB).below hb) (by rw[Ao,<- hPd];exact Au (Sr.skip_len _ _) hRx.tl) (by rw[Ao,<- hQd];exact Au (Sr.skip_len _ _) hRy.tl) (by rw[<- hPd];exact Sr.skip_valid hRx.tv) (by rw[<- hQd];exact Sr.skip_valid hRy.tv);rw[<- hPd,<- hQd,hF]at CC;have HTX:=J TX;have HTY:=J TY;have HCC:=zik;subst h1;clear TX TY CC hP hQ hPd hQd hF hG hx hy hRx hRy hC;go_enter Tryz.func45,Tryz.ntmps45;go_wp2;clear hW
    go_region_held3 (fun w'=>Aa W.heap.size W w'/\w'.cell? ⟨w.heap.size,0,A0⟩=A3 (.int .i64 x.id)/\w'.cell? ⟨w.heap.size,1,A0⟩=A3 (.int .i64 x.ver)/\w'.cell? ⟨w.heap.size,2,A0⟩=A3 (.int .i64 x.kind)/\w'.cell? ⟨w.heap.size,3,A0⟩=A3 (.string x.lang)/\w'.cell? ⟨w.heap.size,4,A0⟩=A3 (.slice xa x.fields.length xc)/\w'.cell? ⟨w.heap.size+1,0,A0⟩=A3 (.int .i64 y.id)/\w'.cell? ⟨w.heap.size+1,1,A0⟩=A3 (.int .i64 y.ver)/\w'.cell? ⟨w.heap.size+1,2,A0⟩=A3 (.int .i64 y.kind)/\w'.cell? ⟨w.heap.size+1,3,A0⟩=A3 (.string y.lang)/\w'.cell? ⟨w.heap.size+1,4,A0⟩=A3 (.slice ya y.fields.length yc)/\w'.cell? ⟨X,0,A0⟩=A3 (.int .i64 1)/\w'.cell? ⟨Y,0,A0⟩=A3 (.string lang)/\w'.cell? ⟨Z,0,A0⟩=A3 (.func (.func 41) #[] #[]))
     (first | exact⟨(Ah _ _).drew,a0,a1,a2,a3,a4,b0,b1,b2,b3,b4,k0,k1,k2⟩ | (go_split_ands;exact⟨Ac ‹_› hbx,by repeat' first | exact A4 hbx ‹_› | constructor⟩))
     (first
      |(go_split_ands;go_at_call 46;((with_reducible refine (HCC.out _ ‹_›).mono ?_);rintro e wx ⟨rfl,hbx⟩))
      |(go_split_ands;go_at_call 41;((with_reducible refine (HTX.out _ ‹_›).mono ?_);rintro e wx ⟨rfl,hbx⟩))
      |(go_split_ands;go_at_call 41;((with_reducible refine (HTY.out _ ‹_›).mono ?_);rintro e wx ⟨rfl,hbx⟩)))
    exact ywl
   ·by_cases h2:by_=2
    ·rw[Sr.first2 h2]at hF;exact v1s
    ·by_cases h3:by_=3
     ·rw[Sr.first3 h3]at hF;obtain⟨P,hP⟩:∃ P:Nat,DQ x.fields=P:=⟨_,rfl⟩;obtain⟨Q,hQ⟩:∃ Q:Nat,DQ y.fields=Q:=⟨_,rfl⟩;have TX:∀ W',Aa W.heap.size W W'->_:=fun W' hb=>record_Year_c x.fields xa xc x.id x.ver x.kind x.lang W' ((hx.below hB).below hb) hRx.gd;have TY:∀ W',Aa W.heap.size W W'->_:=fun W' hb=>record_Year_c y.fields ya yc y.id y.ver y.kind y.lang W' ((hy.below hB).below hb) hRy.gd;rw[hP]at TX hF;rw[hQ]at TY hF;have CC:=HCI.out (Q:Int) (P:Int);rw[hF]at CC;have HTX:=J TX;have HTY:=J TY;have HCC:=zik;subst h3;clear TX TY CC hP hQ hF hG hx hy hRx hRy hC h1 h2;go_enter Tryz.func45,Tryz.ntmps45;go_wp2;clear hW
      go_region_held3 (fun w'=>Aa W.heap.size W w'/\w'.cell? ⟨w.heap.size,0,A0⟩=A3 (.int .i64 x.id)/\w'.cell? ⟨w.heap.size,1,A0⟩=A3 (.int .i64 x.ver)/\w'.cell? ⟨w.heap.size,2,A0⟩=A3 (.int .i64 x.kind)/\w'.cell? ⟨w.heap.size,3,A0⟩=A3 (.string x.lang)/\w'.cell? ⟨w.heap.size,4,A0⟩=A3 (.slice xa x.fields.length xc)/\w'.cell? ⟨w.heap.size+1,0,A0⟩=A3 (.int .i64 y.id)/\w'.cell? ⟨w.heap.size+1,1,A0⟩=A3 (.int .i64 y.ver)/\w'.cell? ⟨w.heap.size+1,2,A0⟩=A3 (.int .i64 y.kind)/\w'.cell? ⟨w.heap.size+1,3,A0⟩=A3 (.string y.lang)/\w'.cell? ⟨w.heap.size+1,4,A0⟩=A3 (.slice ya y.fields.length yc)/\w'.cell? ⟨X,0,A0⟩=A3 (.int .i64 3)/\w'.cell? ⟨Y,0,A0⟩=A3 (.string lang)/\w'.cell? ⟨Z,0,A0⟩=A3 (.func (.func 41) #[] #[]))
       (first | exact⟨(Ah _ _).drew,a0,a1,a2,a3,a4,b0,b1,b2,b3,b4,k0,k1,k2⟩ | (go_split_ands;exact⟨Ac ‹_› hbx,by repeat' first | exact A4 hbx ‹_› | constructor⟩) | (go_split_ands;exact⟨oB,oB,oB,oB,oB,oB,oB,oB,oB,oB,oB,oB,oB,oB⟩))
       (first
        |(go_split_ands;go_at_call 48;((with_reducible refine (HCC.out _).mono ?_);rintro e wx ⟨rfl,rfl⟩))
        |(go_split_ands;go_at_call 49;((with_reducible refine (HTX.out _ ‹_›).mono ?_);rintro e wx ⟨rfl,hbx⟩))
        |(go_split_ands;go_at_call 49;((with_reducible refine (HTY.out _ ‹_›).mono ?_);rintro e wx ⟨rfl,hbx⟩)))
      exact ywl
     ·rw[Sr.first0 h1 h2 h3]at hF;subst hF;have t1:(by_ == 1)=false:=beq_eq_false_iff_ne.2 h1;have t2:(by_ == 2)=false:=beq_eq_false_iff_ne.2 h2;have t3:(by_ == 3)=false:=beq_eq_false_iff_ne.2 h3;clear hG hx hy hRx hRy hC h1 h2 h3;go_enter Tryz.func45,Tryz.ntmps45
      go_wp2_with (first
       |(go_at_call 48;(with_reducible refine (HCD.out _).mono ?_);rintro e w8 ⟨rfl,rfl⟩)
       |(go_at_call 50;refine (sr_or2_c 0 D w8.heap.size _ oZ oZ).mono ?_;rintro e w7 ⟨rfl,rfl⟩))
      go_ret;exact⟨rfl,hB.alloc hB.size _⟩
  |obtain⟨F,hF⟩:∃ F,Sr.firstR by_ lang.data.toList x y=F:=⟨_,rfl⟩
   rw[hF];by_cases h1:by_=1
   ·rw[Sr.firstR1 h1]at hF;have XL:=Sr.skip_len x.lang.data.toList (E4 x.fields);have YL:=Sr.skip_len y.lang.data.toList (E4 y.fields);have XV:=Sr.skip_valid (lang:=x.lang.data.toList) hRx.tv;have YV:=Sr.skip_valid (lang:=y.lang.data.toList) hRy.tv;have hxl:=hRx.tl;have hyl:=hRy.tl;have TX:∀ W',Aa W.heap.size W W'->_:=fun W' hb=>sr_titleR_c x xa xc W' ((hx.below hB).below hb) hRx;have TY:∀ W',Aa W.heap.size W W'->_:=fun W' hb=>sr_titleR_c y ya yc W' ((hy.below hB).below hb) hRy;obtain⟨M,hM⟩:∃ M:ByteArray,(⟨(E4 x.fields).toArray⟩:ByteArray)=M:=⟨_,rfl⟩;obtain⟨N,hN⟩:∃ N:ByteArray,(⟨(E4 y.fields).toArray⟩:ByteArray)=N:=⟨_,rfl⟩;have hMd:E4 x.fields=M.data.toList:=by rw[<- hM]
    have hNd:E4 y.fields=N.data.toList:=by rw[<- hN]
    rw[hM]at TX;rw[hN]at TY;rw[hMd]at hF XL XV hxl;rw[hNd]at hF YL YV hyl;rw[<- Ao]at hxl hyl XL YL;have SX:∀ W',_:=fun W'=>r02_Skip_c x.lang M W' hxl;have SY:∀ W',_:=fun W'=>r02_Skip_c y.lang N W' hyl;obtain⟨P,hP⟩:∃ P:ByteArray,(⟨(IZ x.lang.data.toList M.data.toList).toArray⟩:ByteArray)=P:=⟨_,rfl⟩;obtain⟨Q,hQ⟩:∃ Q:ByteArray,(⟨(IZ y.lang.data.toList N.data.toList).toArray⟩:ByteArray)=Q:=⟨_,rfl⟩;have hPd:IZ x.lang.data.toList M.data.toList=P.data.toList:=by rw[<- hP]
    have hQd:IZ y.lang.data.toList N.data.toList=Q.data.toList:=by rw[<- hQ]
    rw[hP]at SX;rw[hQ]at SY;rw[hPd]at XL XV;rw[hQd]at YL YV;rw[<- Ao]at XL YL;have CC:∀ W',_:=fun W'=>r02_Compare_c lang P Q W' oQ oQ XV YV;rw[<- hPd,<- hQd,hF]at CC;have HTX:=J TX;have HTY:=J TY;have HSX:=J SX;have HSY:=J SY;have HCC:=zik;subst h1;clear TX TY SX SY CC hP hQ hPd hQd hM hN hMd hNd hF hx hy hRx hRy XL YL XV YV hxl hyl;go_enter Tryz.func52,Tryz.ntmps52;go_wp2;clear hW
    go_region_held3 (fun w'=>Aa W.heap.size W w'/\w'.cell? ⟨w.heap.size,0,A0⟩=A3 (.int .i64 x.id)/\w'.cell? ⟨w.heap.size,1,A0⟩=A3 (.int .i64 x.ver)/\w'.cell? ⟨w.heap.size,2,A0⟩=A3 (.int .i64 x.kind)/\w'.cell? ⟨w.heap.size,3,A0⟩=A3 (.string x.lang)/\w'.cell? ⟨w.heap.size,4,A0⟩=A3 (.slice xa x.fields.length xc)/\w'.cell? ⟨w.heap.size+1,0,A0⟩=A3 (.int .i64 y.id)/\w'.cell? ⟨w.heap.size+1,1,A0⟩=A3 (.int .i64 y.ver)/\w'.cell? ⟨w.heap.size+1,2,A0⟩=A3 (.int .i64 y.kind)/\w'.cell? ⟨w.heap.size+1,3,A0⟩=A3 (.string y.lang)/\w'.cell? ⟨w.heap.size+1,4,A0⟩=A3 (.slice ya y.fields.length yc))
     (first | exact⟨(Ah _ _).drew,a0,a1,a2,a3,a4,b0,b1,b2,b3,b4⟩ | (go_split_ands;exact⟨Ac ‹_› hbx,by repeat' first | exact A4 hbx ‹_› | constructor⟩))
     (first
      |(go_split_ands;go_at_call 109;((with_reducible refine (HCC.out _).mono ?_);rintro e wx ⟨rfl,hbx⟩))
      |(go_split_ands;go_at_call 110;((with_reducible refine (HSX.out _).mono ?_);rintro e wx ⟨rfl,hbx⟩))
      |(go_split_ands;go_at_call 110;((with_reducible refine (HSY.out _).mono ?_);rintro e wx ⟨rfl,hbx⟩))
      |(go_split_ands;go_at_call 111;((with_reducible refine (HTX.out _ ‹_›).mono ?_);rintro e wx ⟨rfl,hbx⟩))
      |(go_split_ands;go_at_call 111;((with_reducible refine (HTY.out _ ‹_›).mono ?_);rintro e wx ⟨rfl,hbx⟩)))
    exact yze
   ·by_cases h2:by_=2
    ·rw[Sr.firstR2 h2]at hF;exact v1s
    ·by_cases h3:by_=3
     ·rw[Sr.firstR3 h3]at hF;have TX:∀ W',Aa W.heap.size W W'->_:=fun W' hb=>r08_Year_c x.fields xa xc x.id x.ver x.kind x.lang W' ((hx.below hB).below hb) hRx.gd;have TY:∀ W',Aa W.heap.size W W'->_:=fun W' hb=>r08_Year_c y.fields ya yc y.id y.ver y.kind y.lang W' ((hy.below hB).below hb) hRy.gd;have hyx:=Ds.year_le x.fields;have hyy:=Ds.year_le y.fields;obtain⟨P,hP⟩:∃ P:Nat,DQ x.fields=P:=⟨_,rfl⟩;obtain⟨Q,hQ⟩:∃ Q:Nat,DQ y.fields=Q:=⟨_,rfl⟩;rw[hP]at TX hF hyx;rw[hQ]at TY hF hyy;have HTX:=J TX;have HTY:=J TY;have HF:=J hF;subst h3;clear TX TY hP hQ hF hx hy hRx hRy h1 h2;go_enter Tryz.func52,Tryz.ntmps52;go_wp2;clear hW
      go_region_held3 (fun w'=>Aa W.heap.size W w'/\w'.cell? ⟨w.heap.size,0,A0⟩=A3 (.int .i64 x.id)/\w'.cell? ⟨w.heap.size,1,A0⟩=A3 (.int .i64 x.ver)/\w'.cell? ⟨w.heap.size,2,A0⟩=A3 (.int .i64 x.kind)/\w'.cell? ⟨w.heap.size,3,A0⟩=A3 (.string x.lang)/\w'.cell? ⟨w.heap.size,4,A0⟩=A3 (.slice xa x.fields.length xc)/\w'.cell? ⟨w.heap.size+1,0,A0⟩=A3 (.int .i64 y.id)/\w'.cell? ⟨w.heap.size+1,1,A0⟩=A3 (.int .i64 y.ver)/\w'.cell? ⟨w.heap.size+1,2,A0⟩=A3 (.int .i64 y.kind)/\w'.cell? ⟨w.heap.size+1,3,A0⟩=A3 (.string y.lang)/\w'.cell? ⟨w.heap.size+1,4,A0⟩=A3 (.slice ya y.fields.length yc))
       (first | exact⟨(Ah _ _).drew,a0,a1,a2,a3,a4,b0,b1,b2,b3,b4⟩ | (go_split_ands;exact⟨Ac ‹_› hbx,by repeat' first | exact A4 hbx ‹_› | constructor⟩))
       (first
        |(go_split_ands;go_at_call 113;((with_reducible refine (HTX.out _ ‹_›).mono ?_);rintro e wx ⟨rfl,hbx⟩))
        |(go_split_ands;go_at_call 113;((with_reducible refine (HTY.out _ ‹_›).mono ?_);rintro e wx ⟨rfl,hbx⟩)))
      go_split_ands;have hb9:=zff;go_wp2;go_ret;exact⟨Tx.ret1 (by rw[<- HF.out];first | exact IntWalk.i64_in _ ⟨oQ,oQ⟩ | rfl | go_num),Ac hB hb9⟩
     ·rw[Sr.firstR0 h1 h2 h3]at hF;subst hF;have t1:(by_ == 1)=false:=beq_eq_false_iff_ne.2 h1;have t2:(by_ == 2)=false:=beq_eq_false_iff_ne.2 h2;have t3:(by_ == 3)=false:=beq_eq_false_iff_ne.2 h3;clear hx hy hRx hRy h1 h2 h3;go_enter Tryz.func52,Tryz.ntmps52;go_wp2;go_ret;exact⟨rfl,hB⟩):P:=h
theorem sr_compare_c (by_:Int) (lang:ByteArray) (X Y Z:Nat) (x y:Ci) (xa ya:Option Aq) (xc yc:Nat) (w:Ab) (hG:G w) (hx:Bz w xa xc x.fields) (hy:Bz w ya yc y.fields) (hRx:Sr.Rg x) (hRy:Sr.Rg y) (hC:Sr.Cap3 w X Y Z by_ lang) :
  Af A8 45 #[.agg #[.int .i64 x.id,.int .i64 x.ver,.int .i64 x.kind,.string x.lang,.slice xa x.fields.length xc],.agg #[.int .i64 y.id,.int .i64 y.ver,.int .i64 y.kind,.string y.lang,.slice ya y.fields.length yc],.pointer (A3 ⟨X,0,A0⟩),.pointer (A3 ⟨Y,0,A0⟩),.pointer (A3 ⟨Z,0,A0⟩)] w fun e w'=>e=.returned (.int .i64 (Sr.or2 (Sr.firstP by_ lang.data.toList x y) (DR x.id y.id)))/\Aa w.heap.size w w':=by
 exact v7z
theorem sr_compare_enters:∀ args w,(callFunc 45 args).run A8 w=.ok (.enter 45 args) w:=enters_of Tryz.func45 oJ rfl
namespace Sr
open Rc hiding bys
theorem clean_valid {l:By} (hv:AE l=true):AE (Je l)=true:=by
 unfold Je;refine Tx.foldT_ind Tx.cleanStep (fun st _=>AE st.1=true) (fun st m hne hm ho=>?_) l.length ([],false) l (Ad _) hv rfl;unfold Tx.cleanStep;split
 ·exact ho
 ·refine Rc.valid_app ?_ (Tx.valid_piece hne hm).1;split
  ·exact Rc.valid_app ho oX
  ·exact ho
def vsF (l:List (UInt8 × ByteArray)):Nat:=(l.map fun x=>x.2.size).sum
theorem allV_words {codes:By}:∀ {l:List (UInt8 × ByteArray)},(∀ x∈l,AE x.2.data.toList=true)->((allV l codes).flatMap fun s=>Tx.words s.data.toList).length<=2*vsF l
 | [],_=>by simp[allV]
 | x::l,h=>by
  have ih:=allV_words (codes:=codes) (l:=l) (fun y hy=>h y (BH _ hy));have h1:=(Tx.words_good (h x (B8 ..))).2;have h2:x.2.data.toList.length=x.2.size:=(Ao x.2).symm;unfold allV at ih ⊢;unfold vsF at ih ⊢;rw[BX,Lf];by_cases hc:hasCode codes x.1=true
  ·rw[List.filter_cons_of_pos (by simpa using hc),BX,List.flatMap_cons,Ag];omega
  ·rw[List.filter_cons_of_neg (by simpa using hc)];omega
theorem vsF_le:∀ (l:List (UInt8 × ByteArray)),(∀ x∈l,x.2.size<=300)->vsF l<=300*l.length
 | [],_=>by simp[vsF]
 | x::r,h=>by
  have h1:=h x (B8 ..);have h2:=vsF_le r fun y hy=>h y (BH _ hy);unfold vsF at h2 ⊢;rw[BX,Lf,AH];omega
theorem okf_plain {f:Fl} (h:Okf f) (c:By):(plain f.subs c).length<=100000:=by
 have h1:(plain f.subs c).length<=(LV (allV f.subs c)).length*(200+1):=by
  refine join_le _ [32] 200 fun x hx=>?_;unfold LV at hx;obtain⟨y,hy,rfl⟩:=zqb;obtain⟨z,hz,rfl⟩:=allV_mem hy;have:=(h.vals z hz).2.2.2
  rwa [Ao]at this
 have h2:(LV (allV f.subs c)).length<=16:=by
  unfold LV;rw[List.length_map];exact Au (allV_len _ _) h.subs
 omega
theorem first_mem {fs:List Fl}{t:By}{f:Fl} (h:first fs t=A3 f):f∈fs:=List.mem_of_find?_eq_some h
theorem authorT_ok {fs:List Fl} (h:∀ f∈fs,Okf f) {t:By}{v:ByteArray} (hv:authorT fs t=A3 v):v.data.toList.length<=1000000/\AE v.data.toList=true:=by
 unfold authorT at hv;cases hf:first fs t with
 | none=>rw[hf]at hv;cases hv
 | some f =>
  rw[hf]at hv;obtain⟨x,hx,rfl⟩:=get_mem (show get f.subs 97=A3 v from hv);have:=(h f (first_mem hf)).vals x hx;refine⟨?_,this.2.2.1⟩;have h2:=this.2.2.2;rw[Ao]at h2;omega
theorem author_ok {fs:List Fl} (h:∀ f∈fs,Okf f):(author fs).length<=1000000/\AE (author fs)=true:=by
 unfold author;cases h1:authorT fs [49,48,48] with
 | some v=>exact authorT_ok h h1
 | none =>
  cases h2:authorT fs [49,49,48] with
  | some v=>exact authorT_ok h h2
  | none =>
   cases h3:authorT fs [55,48,48] with
   | some v=>exact authorT_ok h h3
   | none=>exact⟨Am _,rfl⟩
theorem title_ok {fs:List Fl} (h:∀ f∈fs,Okf f):(title fs).length<=1000000/\AE (title fs)=true:=by
 unfold title;cases hf:first fs [50,52,53] with
 | none=>exact⟨Am _,rfl⟩
 | some f =>
  have hg:=h f (first_mem hf);have h1:=Tx.clean_len (plain f.subs [97,98]);have h2:=okf_plain hg [97,98];exact⟨by show (Je _).length<=_;omega,clean_valid (hg.gd.plain_valid _)⟩
theorem rg_of {r:Rd} (hs:smallR r.fields=true) (he:recE r=0):Rg r:=by
 obtain⟨hid,_,_,hlang,_,_,hok⟩:=recE_zero he;unfold smallR at hs;rw[decide_eq_true_eq]at hs;have hg:=fun f hf=>(hok f hf).gd;have ht:=title_ok hok;have ha:=author_ok hok;refine⟨hg,⟨hs.1,fun f hf=>(hg f hf).1,fun f hf x hx=>((hg f hf).2 x hx).1,fun f hf codes=>?_⟩,ht.1,ht.2,ha.1,ha.2,?_,fun f hf=>(hok f hf).tag,oQ⟩
 ·have h3:=allV_words (codes:=codes) (l:=f.subs) (fun x hx=>((hg f hf).2 x hx).2);have h4:=vsF_le f.subs fun x hx=>Au ((hok f hf).vals x hx).2.2.2 oX;have h5:=(hok f hf).subs;unfold Ix.wordsF;omega
 ·rw[Ao,hlang];decide
def yrB (y a b:Int):Bool:=!decide (y=0)&&(decide (a<=y)&&decide (y<=b))
structure RQ (w W:Ab) (Y:Nat) (id ver kind:Int) (lang:ByteArray) (v:Ak) (q0 q1 q2 q3 q4 q5:Ak):Prop where
 b:Aa w.heap.size w W
 r0:W.cell? ⟨Y,0,A0⟩=A3 (.int .i64 id)
 r1:W.cell? ⟨Y,1,A0⟩=A3 (.int .i64 ver)
 r2:W.cell? ⟨Y,2,A0⟩=A3 (.int .i64 kind)
 r3:W.cell? ⟨Y,3,A0⟩=A3 (.string lang)
 r4:W.cell? ⟨Y,4,A0⟩=A3 v
 q0:W.cell? ⟨Y+1,0,A0⟩=A3 q0
 q1:W.cell? ⟨Y+1,1,A0⟩=A3 q1
 q2:W.cell? ⟨Y+1,2,A0⟩=A3 q2
 q3:W.cell? ⟨Y+1,3,A0⟩=A3 q3
 q4:W.cell? ⟨Y+1,4,A0⟩=A3 q4
 q5:W.cell? ⟨Y+1,5,A0⟩=A3 q5
theorem RQ.new (w:Ab) (id ver kind:Int) (lang:ByteArray) (v:Ak) (q0 q1 q2 q3 q4 q5:Ak) (t u:TypeId) :
  RQ w ((w.alloc (.cells #[.int .i64 id,.int .i64 ver,.int .i64 kind,.string lang,v] t)).alloc (.cells #[q0,q1,q2,q3,q4,q5] u)) w.heap.size id ver kind lang v q0 q1 q2 q3 q4 q5 :=
 ⟨(Tx.newb _ _).alloc (Tx.newb w _).size _,oZ,oZ,oZ,oZ,oZ,oZ,oZ,oZ,oZ,oZ,oZ⟩
end Sr
theorem uhp (h:P:=by
 go_enter Tryz.func67,Tryz.ntmps67;go_wp2_with (go_at_call 49;(with_reducible refine HY.out.mono ?_);rintro e w1 ⟨rfl,hb1⟩;have d3':=A4 hb1 d3;have d4':=A4 hb1 d4)
 first
  |go_ret
   exact⟨AX (by first | rfl | simp[h2]),Ac hB hb1⟩
  |go_ret
   exact⟨AX (by first | rfl | simp[h1]),Ac hB hb1⟩
  |go_ret
   exact⟨rfl,Ac hB hb1⟩):P:=h
theorem vex (h:P:=by
 obtain⟨W,hW⟩:∃ W,(w.alloc (.cells #[.int .i64 id,.int .i64 ver,.int .i64 kind,.string lang,.slice a fs.length c] 51)).alloc (.cells #[.int .i64 op,.int .i64 fl,v2,.int .i64 ya,.int .i64 yb,v5] 29)=W:=⟨_,rfl⟩;have hR:=Sr.RQ.new w id ver kind lang (.slice a fs.length c) (.int .i64 op) (.int .i64 fl) v2 (.int .i64 ya) (.int .i64 yb) v5 51 29;rw[hW]at hR;obtain⟨hB,c0,c1,c2,c3,c4,d0,d1,d2,d3,d4,d5⟩:=hR
 first
  |have YC:=record_Year_c fs a c id ver kind lang W (h.below hB) hg
   obtain⟨y,hy⟩:∃ y,DQ fs=y:=⟨_,rfl⟩;rw[hy]at YC ⊢;obtain⟨b,hb⟩:∃ b,Sr.yrB (y:Int) ya yb=b:=⟨_,rfl⟩;rw[hb];unfold Sr.yrB at hb;have HY:=J YC;clear YC hy h hg;by_cases h0:(y:Int)=0
   ·have hb2:b=false:=by rw[<- hb,decide_eq_true h0];rfl
    have t0:((y:Int) != 0)=false:=by rw[h0];rfl
    subst hb2;clear hb h0;exact uhp
   ·have t0:((y:Int) != 0)=true:=bne_iff_ne.2 h0;by_cases h1:ya<=(y:Int)
    ·have t1:(y:Int) ≥ ya:=h1;by_cases h2:(y:Int)<=yb
     ·have hb2:=zij;subst hb2;clear hb h0;exact uhp
     ·have hb2:=zie;subst hb2;clear hb h0;exact uhp
    ·have hb2:=zle;have t1:¬ (y:Int) ≥ ya:=h1;subst hb2;clear hb h0;exact uhp
  |have YC:=r08_Year_c fs a c id ver kind lang W (h.below hB) hg
   obtain⟨y,hy⟩:∃ y,DQ fs=y:=⟨_,rfl⟩;rw[hy]at YC ⊢;obtain⟨b,hb⟩:∃ b,Sr.yrB (y:Int) ya yb=b:=⟨_,rfl⟩;rw[hb];unfold Sr.yrB at hb;have HY:=J YC;clear YC hy h hg;by_cases h0:(y:Int)=0
   ·have hb2:b=false:=by rw[<- hb,decide_eq_true h0];rfl
    have t0:((y:Int) != 0)=false:=by rw[h0];rfl
    subst hb2;clear hb h0;exact u1a
   ·have t0:((y:Int) != 0)=true:=bne_iff_ne.2 h0;by_cases h1:ya<=(y:Int)
    ·have t1:(y:Int) ≥ ya:=h1;by_cases h2:(y:Int)<=yb
     ·have hb2:=zij;subst hb2;clear hb h0;exact u1a
     ·have hb2:=zie;subst hb2;clear hb h0;exact u1a
    ·have hb2:=zle;have t1:¬ (y:Int) ≥ ya:=h1;subst hb2;clear hb h0;exact u1a):P:=h
theorem search_years_c (fs:List Rc.Fl) (a:Option Aq) (c:Nat) (id ver kind:Int) (lang:ByteArray) (op fl ya yb:Int) (v2 v5:Ak) (w:Ab) (h:Bz w a c fs) (hg:∀ f∈fs,Rc.Gd f) :
  Af A8 67 #[.agg #[.int .i64 id,.int .i64 ver,.int .i64 kind,.string lang,.slice a fs.length c],.agg #[.int .i64 op,.int .i64 fl,v2,.int .i64 ya,.int .i64 yb,v5]] w fun e w'=>e=.returned (.bool (Sr.yrB (DQ fs) ya yb))/\Aa w.heap.size w w':=by
 exact vex
theorem u1a (h:P:=by
 go_enter Tryz.func69,Tryz.ntmps69;go_wp2_with (go_at_call 113;(with_reducible refine HY.out.mono ?_);rintro e w1 ⟨rfl,hb1⟩;have d3':=A4 hb1 d3;have d4':=A4 hb1 d4)
 first
  |go_ret
   exact⟨AX (by first | rfl | simp[h2]),Ac hB hb1⟩
  |go_ret
   exact⟨AX (by first | rfl | simp[h1]),Ac hB hb1⟩
  |go_ret
   exact⟨rfl,Ac hB hb1⟩):P:=h
theorem r22_Years_c (fs:List Rc.Fl) (a:Option Aq) (c:Nat) (id ver kind:Int) (lang:ByteArray) (op fl ya yb:Int) (v2 v5:Ak) (w:Ab) (h:Bz w a c fs) (hg:∀ f∈fs,Rc.Gd f) :
  Af A8 69 #[.agg #[.int .i64 id,.int .i64 ver,.int .i64 kind,.string lang,.slice a fs.length c],.agg #[.int .i64 op,.int .i64 fl,v2,.int .i64 ya,.int .i64 yb,v5]] w fun e w'=>e=.returned (.bool (Sr.yrB (DQ fs) ya yb))/\Aa w.heap.size w w':=by
 exact vex
theorem r22_Has_c (xs:List Int) (n:Int) (a:Option Aq) (c:Nat) (w:Ab) (h:Ix.IA w a c xs) :
  Af A8 51 #[.slice a xs.length c,.int .i64 n] w fun e w'=>e=.returned (.bool (decide (n∈xs)))/\w'=w:=by
 obtain⟨r,hr⟩:∃ r,decide (n∈xs)=r:=⟨_,rfl⟩;rw[hr];have HR:=J hr;have HS:=zkq;have hcap:=h.cap;have hmax:=h.max;unfold maxLen at hmax;clear hr h;go_enter Tryz.func51,Tryz.ntmps51;go_wp2;go_loop [5] (fun i=>∃ k:Nat,k<=xs.length/\i=.int .i64 k/\Hid (n ∉ xs.take k)) (fun i=>xs.length - (intOf i).toNat)
 case atStart=>exact⟨0,Am _,by go_num,J oZ⟩
 case round =>
  obtain⟨k,hk,rfl,hN⟩:=hrel;by_cases hlt:k<xs.length
  ·obtain⟨y,hy⟩:=zir;obtain⟨b,o,rfl,hbl,f0⟩:=Ix.IA.cell HS.out hy;have htk:xs.take (k+1)=xs.take k++[y]:=by rw[List.take_add_one,hy];rfl
   have hmem:y∈xs:=List.mem_of_getElem? hy;by_cases hq:y=n
   ·have hq2:(y == n)=true:=beq_iff_eq.2 hq;have hrt:r=true:=by rw[<- HR.out];exact decide_eq_true (hq▸hmem)
    subst hrt;clear htk hmem hy hq;go_wp2;go_ret;exact⟨rfl,rfl⟩
   ·have hq2:(y == n)=false:=beq_eq_false_iff_ne.2 hq
    have HN:Hid (n ∉ xs.take (k+1)):=J (by
     rw[htk,List.mem_append,List.mem_singleton];rintro (h9 | h9)
     ·exact hN.out h9
     ·exact hq h9.symm)
    clear htk hmem hy hq;go_wp2;go_round
    case rel=>exact⟨k+1,hlt,by go_num,HN⟩
    case measure=>simp[intOf];omega
  ·obtain rfl:k=xs.length:=oQ;have hrf:r=false:=by rw[<- HR.out];exact decide_eq_false (by have:=hN.out;rwa [At]at this)
   subst hrf;go_wp2;go_ret;exact⟨rfl,rfl⟩
theorem y1t (h:P:=by
 refine (Tryz.slices_Clone_int_zero ad c w).mono ?_;rintro e w' ⟨v,rfl,ho,_,hb⟩;exact⟨v,rfl,ho,hb⟩):P:=h
theorem cloneI_c (xs:List Int) (a:Option Aq) (c:Nat) (w:Ab) (h:Ix.IA w a c xs) (hl:xs.length<=1000000000000) :
  Af A8 53 #[.slice a xs.length c] w fun e w'=>∃ v,e=.returned v/\Ix.OwnI w' w.heap.size v xs/\Aa w.heap.size w w':=by
 cases xs with
 | nil =>
  cases a with
  | none =>
   refine (Tryz.slices_Clone_int_nil 0 c w).mono ?_;rintro e w' ⟨rfl,rfl⟩;exact⟨_,rfl,World.ownsRow_nil _ _ _ _,Ah _ _⟩
  | some ad =>
   exact y1t
 | cons x r =>
  obtain⟨b,o,h1,h2⟩:=h.at_;obtain⟨rfl,_⟩:=h1 oZ;refine (Tryz.slices_Clone_int b o (x::r).length c (x::r) w (Ad _) oQ (fun j hj=>?_)).mono ?_
  ·have:=h2 j 0 ((x::r).getD j 0) (.int .i64 ((x::r).getD j 0)) uY rfl;simpa using this
  ·rintro e w' ⟨v,rfl,ho,_,hb⟩;rw[At]at ho;exact⟨v,rfl,ho,hb⟩
namespace Sr
theorem page_cut {xs:List Int}{fr n:Int}{F M:Nat} (hF:min (max fr 0) (xs.length:Int)=(F:Int)) (hM:min (max n 0) ((xs.length:Int) - F)=(M:Int)):page xs fr n=(xs.drop F).take M:=by
 unfold page;by_cases h:fr.toNat<=xs.length
 ·have e:fr.toNat=F:=oQ;rw[e];by_cases h2:n.toNat<=xs.length - F
  ·have e2:n.toNat=M:=oQ;rw[e2]
  ·have e2:M=xs.length - F:=oQ;rw[e2,Dq aX,Dq aX]
 ·have e:F=xs.length:=oQ;rw[e,AS (Ad _),AS oQ];simp
end Sr
theorem page_zero_c (ad:Aq) (c:Nat) (w:Ab):Af A8 53 #[.slice (A3 ad) 0 c] w fun e w'=>∃ v,e=.returned v/\Ix.OwnI w' w.heap.size v []/\Aa w.heap.size w w':=by
 exact y1t
theorem search_Page_c (xs:List Int) (a:Option Aq) (c:Nat) (fr n:Int) (w:Ab) (h:Ix.IA w a c xs) (hl:xs.length<=1000000) :
  Af A8 19 #[.slice a xs.length c,.int .i64 fr,.int .i64 n] w fun e w'=>∃ v,e=.returned v/\Ix.OwnI w' w.heap.size v (Sr.page xs fr n)/\Aa w.heap.size w w':=by
 obtain⟨F,hF⟩:∃ F:Nat,min (max fr 0) (xs.length:Int)=(F:Int):=⟨(min (max fr 0) (xs.length:Int)).toNat,oQ⟩;obtain⟨M,hM⟩:∃ M:Nat,min (max n 0) ((xs.length:Int) - F)=(M:Int):=⟨(min (max n 0) ((xs.length:Int) - F)).toNat,oQ⟩;have hFl:F<=xs.length:=oQ;have hMl:F+M<=xs.length:=oQ;rw[Sr.page_cut hF hM];have hcap:=h.cap;have hmax:=h.max;unfold maxLen at hmax;by_cases hM0:M=0
 ·subst hM0;rw[List.take_zero];cases a with
  | none =>
   have hx:=h.none rfl;obtain rfl:F=0:=oQ;have ZC:=fun n c W=>Tryz.slices_Clone_int_nil n c W;have HZ:=J ZC;clear ZC h;go_enter Tryz.func19,Tryz.ntmps19;go_wp2_with (go_at_call 53;(with_reducible refine (HZ.out _ _ _).mono ?_);rintro e w1 ⟨rfl,rfl⟩);go_ret;exact⟨_,rfl,World.ownsRow_nil _ _ _ _,Ah _ _⟩
  | some ad =>
   have ZC:=fun ad c W=>page_zero_c ad c W;have HZ:=J ZC;clear ZC h;by_cases hcF:c=F
   all_goals
    go_enter Tryz.func19,Tryz.ntmps19;go_wp2_with (go_at_call 53;(with_reducible refine (HZ.out _ _ _).mono ?_);rintro e w1 ⟨v,rfl,ho,hb⟩);go_ret;exact⟨v,rfl,ho,hb⟩
 ·obtain⟨b,o,h1,h2⟩:=h.at_;have hne:xs≠[]:=by intro e;rw[e,List.length_nil]at hMl;omega
  obtain⟨rfl,hbl⟩:=h1 hne
  have hIA:Ix.IA w (A3 ⟨b,o+F,A0⟩) (c - F) ((xs.drop F).take M):=by
   refine⟨by rw[Az,Ay];omega,by unfold maxLen;omega,b,o+F,fun _=>⟨rfl,hbl⟩,fun j i x u hx hu=>?_⟩
   have hjM:j<M:=by
    have:=(List.getElem?_eq_some_iff.1 hx).1;rw[Az]at this;omega
   rw[List.getElem?_take_of_lt hjM,List.getElem?_drop]at hx;have:=h2 (F+j) i x u hx hu;rw[Nat.mul_one]at this ⊢
   rwa [<- Nat.add_assoc]at this
  have hlen:((xs.drop F).take M).length=M:=by rw[Az,Ay];omega
  have CC:=cloneI_c ((xs.drop F).take M) (A3 ⟨b,o+F,A0⟩) (c - F) w hIA (by rw[hlen];omega);rw[hlen]at CC;have hcF:¬ c=F:=oQ;obtain⟨Y,hY⟩:∃ Y,(xs.drop F).take M=Y:=⟨_,rfl⟩;rw[hY]at CC ⊢;have HC:=zik;clear CC hIA hlen hY h1 h2 h hne;go_enter Tryz.func19,Tryz.ntmps19;go_wp2_with (go_at_call 53;(with_reducible refine HC.out.mono ?_);rintro e w1 ⟨v,rfl,ho,hb⟩);go_ret;exact⟨v,rfl,ho,hb⟩
namespace Sr
theorem firstR1 {by_:Int}{lang:By}{x y:Ci} (h:by_=1):firstR by_ lang x y=cmp lang (skip x.lang.data.toList (E4 x.fields)) (skip y.lang.data.toList (E4 y.fields)):=by unfold firstR;rw[if_pos h]
theorem firstR2 {by_:Int}{lang:By}{x y:Ci} (h:by_=2):firstR by_ lang x y=cmp lang (FU x.fields) (FU y.fields):=by unfold firstR;rw[if_neg oQ,if_pos h]
theorem firstR3 {by_:Int}{lang:By}{x y:Ci} (h:by_=3):firstR by_ lang x y=(DQ y.fields:Int) - (DQ x.fields:Int):=by unfold firstR;rw[if_neg oQ,if_neg oQ,if_pos h]
theorem firstR0 {by_:Int}{lang:By}{x y:Ci} (h1:by_≠1) (h2:by_≠2) (h3:by_≠3):firstR by_ lang x y=0:=by unfold firstR;rw[if_neg h1,if_neg h2,if_neg h3]
end Sr
theorem sr_titleR_c (r:Ci) (a:Option Aq) (c:Nat) (w:Ab) (h:Bz w a c r.fields) (hR:Sr.Rg r) :
  Af A8 111 #[.agg #[.int .i64 r.id,.int .i64 r.ver,.int .i64 r.kind,.string r.lang,.slice a r.fields.length c]] w fun e w'=>e=.returned (.string ⟨(E4 r.fields).toArray⟩)/\Aa w.heap.size w w':=by
 have:=r08_Title_c r.fields a c r.id r.ver r.kind r.lang w h hR.gd (Au hR.mod.len oX)
 rwa [Rc.titleR_eq hR.tag]at this
theorem sr_authorR_c (r:Ci) (a:Option Aq) (c:Nat) (w:Ab) (h:Bz w a c r.fields) (hR:Sr.Rg r) :
  Af A8 112 #[.agg #[.int .i64 r.id,.int .i64 r.ver,.int .i64 r.kind,.string r.lang,.slice a r.fields.length c]] w fun e w'=>e=.returned (.string ⟨(FU r.fields).toArray⟩)/\Aa w.heap.size w w':=by
 have:=r08_Author_c r.fields a c r.id r.ver r.kind r.lang w h (Au hR.mod.len oX);rw[<- Rc.authorR_eq hR.tag];exact this
theorem r22_Compare_c (by_:Int) (lang:ByteArray) (x y:Ci) (xa ya:Option Aq) (xc yc:Nat) (w:Ab) (hx:Bz w xa xc x.fields) (hy:Bz w ya yc y.fields) (hRx:Sr.Rg x) (hRy:Sr.Rg y) :
  Af A8 52 #[.agg #[.int .i64 x.id,.int .i64 x.ver,.int .i64 x.kind,.string x.lang,.slice xa x.fields.length xc],.agg #[.int .i64 y.id,.int .i64 y.ver,.int .i64 y.kind,.string y.lang,.slice ya y.fields.length yc],.int .i64 by_,.string lang] w fun e w'=>e=.returned (.int .i64 (Sr.firstR by_ lang.data.toList x y))/\Aa w.heap.size w w':=by
 exact v7z
end Go.Proofs.YtlakomilichhnaaGreatDoor
