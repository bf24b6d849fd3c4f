/- Parts. -/
import Derived.Test.YtlakomilichhnaaGreatDoorRPe
namespace Go.Proofs.YtlakomilichhnaaGreatDoor
set_option maxHeartbeats 51200000
set_option maxRecDepth 100000
open Go.RowKit
open Bool renaming and_eq_false_iff->LL,and_eq_true->Bu,eq_iff_iff->Bx,or_eq_false_iff->E9
open Go renaming Calls->Af,Ending->J8,Value->Ak,World->Ab,bodyPost_ret->Aw,cell_later->A4,maxLen->Ap,ownsRow_setCell_other->EB
open Lib renaming extract_data->DV,hid->J,toList_data->AG
open List renaming flatMap_append->AR,getD_eq_getElem?_getD->Bi,getElem?_append_left->Cd,getElem?_append_right->BE,getElem?_eq_getElem->Ai,length_append->Ag,take_length->At
open Nat renaming le_refl->Ad,le_trans->Au,lt_of_lt_of_le->AN
open Option renaming none->A0,some->A3
open Proofs.Tryz renaming func266->LZ,func291->FH,func305->FG,ntmps266->Lj,ntmps291->Fe,ntmps305->Fc,prog->A8,underlying27->DG
open Qr renaming PR->I6,QT->G0,Qy->Cq,Tok->AM,anyOp->Ec,encQ->Bb,fieldOf->GA,flat->IW,glue->Ho,isOp->E6,joined->GI,lk->AT,notB->E5,pFlat->JW,pNot->EJ,pOr->DN,pPrim->Db,pTerm->D7,pYears->Ck,word0->DM,wordsB->Bp,wordsB_len->EP,yearN->Di
open Qr.KA renaming nil->EI
open Qr.Kp renaming below->Bc,refl->Dn
open Qr.QC renaming of_kids->Cw
open RowKit renaming Below->Aa
open Tx renaming blk_later->A6,blk_set->BW,newb->A9,ret1->AV,retb->AX,step->Ac,valid->AE,words->Bl,words_len->F5
open World renaming size_alloc->An
variable {P:Prop}
namespace Qr
def kR (k:UInt8):Int:=if k=113 then 2 else if k=114 then 1 else if k=0 then 0 else 3
def tx (t:Tok):By:=if t.k=113\/t.k=114 then t.t else if t.k=0 then [] else [t.k]
def Lg (t:Tok):Prop:=t.k=113\/t.k=114\/t.k=40\/t.k=41\/t.k=58\/t.k=42\/(t.k=0/\t.t=[]/\t.g=false)
theorem lg_lk {r:List Tok} (h:∀ t∈r,Lg t):Lg (lk r):=by
 cases r with
 | nil=>exact .inr (.inr (.inr (.inr (.inr (.inr ⟨rfl,rfl,rfl⟩)))))
 | cons t l=>exact h t oZ
theorem kR_eq {t:Tok} (h:Lg t):(kR t.k=2↔t.k=113)/\(kR t.k=1↔t.k=114)/\(kR t.k=0↔t.k=0)/\(kR t.k=3↔(t.k=40\/t.k=41\/t.k=58\/t.k=42)):=by
 rcases h with h | h | h | h | h | h | ⟨h,_⟩ <;> rw[h] <;> decide
theorem is_eq {t:Tok} (h:Lg t) {c:UInt8} (hc:c=40\/c=41\/c=58\/c=42):(decide (kR t.k=3)&&decide ((⟨(tx t).toArray⟩:ByteArray)=⟨#[c]⟩))=(t.k == c):=by
 have e:∀ d:UInt8,((⟨[d].toArray⟩:ByteArray)=⟨#[c]⟩)↔d=c:=fun d=>oZ;rw[Bx,Bu,decide_eq_true_iff,decide_eq_true_iff,beq_iff_eq,(kR_eq h).2.2.2];constructor
 ·rintro⟨h1,h2⟩;unfold tx at h2;rw[if_neg QQ,if_neg QQ,e]at h2;exact h2
 ·rintro rfl;refine⟨hc,?_⟩;unfold tx;rw[if_neg QX,if_neg QX,e]
theorem op_eq {t:Tok} (h:Lg t) (s:By):(decide (kR t.k=1)&&decide ((⟨(tx t).toArray⟩:ByteArray)=⟨s.toArray⟩))=(t.k == 114&&t.t == s):=by
 rw[Bx,Bu,Bu,decide_eq_true_iff,decide_eq_true_iff,beq_iff_eq,beq_iff_eq,(kR_eq h).2.1];constructor
 ·rintro⟨h1,h2⟩;unfold tx at h2;rw[if_pos (.inr h1)]at h2;exact⟨h1,by simpa using h2⟩
 ·rintro⟨h1,h2⟩;unfold tx;rw[if_pos (.inr h1),h2];exact⟨h1,rfl⟩
def beg (t:Tok):Bool:=t.k == 113||t.k == 40||(t.k == 114&&!anyOp t)
theorem beg_lk (r:List Tok):beg (lk r)=begins r:=by
 unfold beg begins word0;cases (lk r).k == 113 <;> cases (lk r).k == 40 <;> rfl
end Qr
theorem r21_is_g (K:Int) (x s:ByteArray) (g:Bool) (w:Ab) :
  Af A8 292 #[.agg #[.int .i64 K,.string x,.bool g],.string s] w fun e w'=>e=.returned (.bool (decide (K=3)&&decide (x=s)))/\Aa w.heap.size w w':=by
 have hb:=zmo;by_cases h:K=3
 ·subst h;obtain⟨t,ht⟩:=znb;have HT:=zma;go_enter Tryz.func292,Tryz.ntmps292;go_wp2;go_ret;exact⟨AX (by rw[HT.out];simp),hb⟩
 ·have hd:(K == 3)=false:=beq_eq_false_iff_ne.2 h;have HD:=J h;clear h;go_enter Tryz.func292,Tryz.ntmps292;go_wp2;go_ret;exact⟨AX ztc,hb⟩
theorem r21_op_g (K:Int) (x s:ByteArray) (g:Bool) (w:Ab) :
  Af A8 206 #[.agg #[.int .i64 K,.string x,.bool g],.string s] w fun e w'=>e=.returned (.bool (decide (K=1)&&decide (x=s)))/\Aa w.heap.size w w':=by
 have hb:=zmo;by_cases h:K=1
 ·subst h;obtain⟨t,ht⟩:=znb;have HT:=zma;go_enter Tryz.func206,Tryz.ntmps206;go_wp2;go_ret;exact⟨AX (by rw[HT.out];simp),hb⟩
 ·have hd:(K == 1)=false:=beq_eq_false_iff_ne.2 h;have HD:=J h;clear h;go_enter Tryz.func206,Tryz.ntmps206;go_wp2;go_ret;exact⟨AX ztc,hb⟩
theorem r21_is_c (t:AM) (h:Qr.Lg t) (c:UInt8) (hc:c=40\/c=41\/c=58\/c=42) (w:Ab) :
  Af A8 292 #[.agg #[.int .i64 (Qr.kR t.k),.string ⟨(Qr.tx t).toArray⟩,.bool t.g],.string ⟨#[c]⟩] w fun e w'=>e=.returned (.bool (t.k == c))/\Aa w.heap.size w w':=by
 have:=r21_is_g (Qr.kR t.k) ⟨(Qr.tx t).toArray⟩ ⟨#[c]⟩ t.g w;rw[Qr.is_eq h hc]at this;exact this
theorem r21_op_c (t:AM) (h:Qr.Lg t) (s:List UInt8) (w:Ab) :
  Af A8 206 #[.agg #[.int .i64 (Qr.kR t.k),.string ⟨(Qr.tx t).toArray⟩,.bool t.g],.string ⟨s.toArray⟩] w fun e w'=>e=.returned (.bool (t.k == 114&&t.t == s))/\Aa w.heap.size w w':=by
 have:=r21_op_g (Qr.kR t.k) ⟨(Qr.tx t).toArray⟩ ⟨s.toArray⟩ t.g w;rw[Qr.op_eq h s]at this;exact this
theorem r21_anyOp_c (t:AM) (h:Qr.Lg t) (w:Ab) :
  Af A8 293 #[.agg #[.int .i64 (Qr.kR t.k),.string ⟨(Qr.tx t).toArray⟩,.bool t.g]] w fun e w'=>e=.returned (.bool (Ec t))/\Aa w.heap.size w w':=by
 have o1:Hid (∀ w,Af A8 206 #[.agg #[.int .i64 (Qr.kR t.k),.string ⟨(Qr.tx t).toArray⟩,.bool t.g],.string ⟨#[79,82]⟩] w fun e w'=>e=.returned (.bool (t.k == 114&&t.t == Qr.orB))/\Aa w.heap.size w w'):=J (fun w=>r21_op_c t h Qr.orB w);have o2:Hid (∀ w,Af A8 206 #[.agg #[.int .i64 (Qr.kR t.k),.string ⟨(Qr.tx t).toArray⟩,.bool t.g],.string ⟨#[65,78,68]⟩] w fun e w'=>e=.returned (.bool (t.k == 114&&t.t == Qr.andB))/\Aa w.heap.size w w'):=J (fun w=>r21_op_c t h Qr.andB w);have o3:Hid (∀ w,Af A8 206 #[.agg #[.int .i64 (Qr.kR t.k),.string ⟨(Qr.tx t).toArray⟩,.bool t.g],.string ⟨#[78,79,84]⟩] w fun e w'=>e=.returned (.bool (t.k == 114&&t.t == E5))/\Aa w.heap.size w w'):=J (fun w=>r21_op_c t h E5 w);obtain⟨b1,h1⟩:∃ b,(t.k == 114&&t.t == Qr.orB)=b:=⟨_,rfl⟩;obtain⟨b2,h2⟩:∃ b,(t.k == 114&&t.t == Qr.andB)=b:=⟨_,rfl⟩;obtain⟨b3,h3⟩:∃ b,(t.k == 114&&t.t == E5)=b:=⟨_,rfl⟩
 have HA:Hid (Ec t=(b1||b2||b3)):=J (by
  rw[<- h1,<- h2,<- h3];unfold Ec;cases t.k == 114 <;> simp)
 rw[h1]at o1;rw[h2]at o2;rw[h3]at o3;obtain⟨K,hK⟩:∃ K,Qr.kR t.k=K:=⟨_,rfl⟩;obtain⟨x,hx⟩:=zpu;obtain⟨tg,hg⟩:∃ g,t.g=g:=⟨_,rfl⟩;rw[hK,hx,hg]at o1 o2 o3 ⊢;clear hK hx hg h1 h2 h3;obtain⟨W,hW,hB,c0,c1,c2⟩:=znv;cases b1 with
 | true =>
  go_enter Tryz.func293,Tryz.ntmps293;go_wp2_with (go_at_call 206;refine (o1.out _).mono ?_;rintro e w1 ⟨rfl,hb1⟩);go_ret;exact⟨AX iF,hB.trans (hb1.mono hB.size)⟩
 | false =>
  cases b2 with
  | true =>
   go_enter Tryz.func293,Tryz.ntmps293
   go_wp2_with (first
    |(go_at_call 206;with_reducible refine (o1.out _).mono ?_;rintro e w1 ⟨rfl,hb1⟩;have d0:=zig;have d1:=zif;have d2:=znl)
    |(go_at_call 206;with_reducible refine (o2.out _).mono ?_;rintro e w2 ⟨rfl,hb2⟩))
   go_ret;exact⟨AX iF,hB.trans ((Ac hb1 hb2).mono hB.size)⟩
  | false =>
   go_enter Tryz.func293,Tryz.ntmps293
   go_wp2_with (first
    |(go_at_call 206;with_reducible refine (o1.out _).mono ?_;rintro e w1 ⟨rfl,hb1⟩;have d0:=zig;have d1:=zif;have d2:=znl)
    |(go_at_call 206;with_reducible refine (o2.out _).mono ?_;rintro e w2 ⟨rfl,hb2⟩;have f0:=A4 hb2 d0;have f1:=A4 hb2 d1;have f2:=A4 hb2 d2)
    |(go_at_call 206;with_reducible refine (o3.out _).mono ?_;rintro e w3 ⟨rfl,hb3⟩))
   go_ret;exact⟨AX (by rw[HA.out];simp),hB.trans ((Ac (Ac hb1 hb2) hb3).mono hB.size)⟩
theorem uz4 (h:P:=by
 go_enter LZ,Lj
 go_wp2_with (first
  |(go_at_call 293;refine (o2.out _).mono ?_;rintro e w2 ⟨rfl,hb2⟩)
  |(go_at_call 292;refine (o1.out _).mono ?_;rintro e w1 ⟨rfl,hb1⟩;have d0:=zig;have d1:=zif;have d2:=znl))
 first
  |go_ret
   exact⟨AX iF,hB.trans ((Ac hb1 hb2).mono hB.size)⟩
  |go_ret
   exact⟨AX (by rw[HA.out];cases b4 <;> rfl),hB.trans (hb1.mono hB.size)⟩):P:=h
theorem r21_starts_c (t:AM) (h:Qr.Lg t) (w:Ab) :
  Af A8 266 #[.agg #[.int .i64 (Qr.kR t.k),.string ⟨(Qr.tx t).toArray⟩,.bool t.g]] w fun e w'=>e=.returned (.bool (Qr.beg t))/\Aa w.heap.size w w':=by
 have o1:Hid (∀ w,Af A8 292 #[.agg #[.int .i64 (Qr.kR t.k),.string ⟨(Qr.tx t).toArray⟩,.bool t.g],.string ⟨#[40]⟩] w fun e w'=>e=.returned (.bool (t.k == 40))/\Aa w.heap.size w w'):=J (fun w=>r21_is_c t h 40 oZ w);have o2:=J (fun w=>r21_anyOp_c t h w);have h2:(Qr.kR t.k == 2)=(t.k == 113):=by rw[Bx,beq_iff_eq,beq_iff_eq];exact (Qr.kR_eq h).1
 have h1:(Qr.kR t.k == 1)=(t.k == 114):=by rw[Bx,beq_iff_eq,beq_iff_eq];exact (Qr.kR_eq h).2.1
 obtain⟨b1,e1⟩:∃ b,(t.k == 113)=b:=⟨_,rfl⟩;obtain⟨b2,e2⟩:∃ b,(t.k == 40)=b:=⟨_,rfl⟩;obtain⟨b3,e3⟩:∃ b,(t.k == 114)=b:=⟨_,rfl⟩;obtain⟨b4,e4⟩:∃ b,Ec t=b:=⟨_,rfl⟩;have HA:Hid (Qr.beg t=(b1||b2||(b3&&!b4))):=J (by unfold Qr.beg;rw[e1,e2,e3,e4]);rw[e2]at o1;rw[e4]at o2;rw[e1]at h2;rw[e3]at h1;obtain⟨K,hK⟩:∃ K,Qr.kR t.k=K:=⟨_,rfl⟩;obtain⟨x,hx⟩:=zpu;obtain⟨tg,hg⟩:∃ g,t.g=g:=⟨_,rfl⟩;rw[hK,hx,hg]at o1 o2 ⊢;rw[hK]at h1 h2;clear hK hx hg e1 e2 e3 e4;obtain⟨W,hW,hB,c0,c1,c2⟩:=znv;cases b1 with
 | true =>
  obtain rfl:K=2:=by simpa using h2
  clear h1 h2;go_enter LZ,Lj;go_wp2;go_ret;exact⟨AX iF,hB⟩
 | false =>
  cases b2 with
  | true =>
   go_enter LZ,Lj;go_wp2_with (go_at_call 292;refine (o1.out _).mono ?_;rintro e w1 ⟨rfl,hb1⟩);go_ret;exact⟨AX iF,hB.trans (hb1.mono hB.size)⟩
  | false =>
   cases b3 with
   | true =>
    obtain rfl:K=1:=by simpa using h1
    clear h1 h2;cases b4 with
    | true =>
     exact uz4
    | false =>
     exact uz4
   | false =>
    exact uz4
namespace Qr
def fldN (t:By):Int:=match fieldOf t with
 | some f=>f
 | none=>-1
end Qr
theorem r21_fieldOf_c (s:ByteArray) (w:Ab) :
  Af A8 307 #[.string s] w fun e w'=>e=.returned (.int .i64 (Qr.fldN s.data.toList))/\Aa w.heap.size w w':=by
 have hb:=A9 w (.cells #[.string ⟨#[97,110,121]⟩,.string ⟨#[116,105]⟩,.string ⟨#[97,117]⟩,.string ⟨#[115,117]⟩,.string ⟨#[110,117]⟩] 9);obtain⟨t0,h0⟩:∃ t,(([97,110,121]:List UInt8) == s.toList)=t:=⟨_,rfl⟩;obtain⟨t1,h1⟩:∃ t,(([116,105]:List UInt8) == s.toList)=t:=⟨_,rfl⟩;obtain⟨t2,h2⟩:∃ t,(([97,117]:List UInt8) == s.toList)=t:=⟨_,rfl⟩;obtain⟨t3,h3⟩:∃ t,(([115,117]:List UInt8) == s.toList)=t:=⟨_,rfl⟩;obtain⟨t4,h4⟩:∃ t,(([110,117]:List UInt8) == s.toList)=t:=⟨_,rfl⟩
 have e:∀ (L:List UInt8) (t:Bool),(L == s.toList)=t->(s.data.toList=L↔t=true):=fun L t h=>by
  rw[<- h,beq_iff_eq,AG];exact eq_comm
 have HF:Hid (Qr.fldN s.data.toList=if t0=true then 0 else if t1=true then 1 else if t2=true then 2 else if t3=true then 3 else if t4=true then 4 else -1):=J (by
  have e0:=e _ _ h0;have e1:=e _ _ h1;have e2:=e _ _ h2;have e3:=e _ _ h3;have e4:=e _ _ h4;unfold Qr.fldN GA;simp only[e0,e1,e2,e3,e4];clear h0 h1 h2 h3 h4 e0 e1 e2 e3 e4 e hb;cases t0 <;> cases t1 <;> cases t2 <;> cases t3 <;> cases t4 <;> rfl)
 clear e;obtain⟨W,hW,hB,c0,c1,c2,c3,c4⟩:=Tx.ent5 w (.string ⟨#[97,110,121]⟩) (.string ⟨#[116,105]⟩) (.string ⟨#[97,117]⟩) (.string ⟨#[115,117]⟩) (.string ⟨#[110,117]⟩) 9;clear hb;go_enter Tryz.func307,Tryz.ntmps307;go_wp2;clear hW;go_loop [4] (fun i=>∃ k:Nat,k<=5/\i=.int .i64 k/\Hid ((0<k->t0=false)/\(1<k->t1=false)/\(2<k->t2=false)/\(3<k->t3=false)/\(4<k->t4=false))) (fun i=>5 - (intOf i).toNat)
 case atStart=>exact⟨0,oQ,rfl,J ⟨fun h=>oQ,fun h=>oQ,fun h=>oQ,fun h=>oQ,fun h=>oQ⟩⟩
 case round =>
  obtain⟨k,hk,rfl,hall⟩:=hrel;rcases (show k=0\/k=1\/k=2\/k=3\/k=4\/k=5 by omega) with rfl | rfl | rfl | rfl | rfl | rfl
  ·cases t0 with
   | true =>
    go_wp2;go_ret;exact⟨AV eB,hB⟩
   | false =>
    go_wp2;go_round
    case rel=>exact⟨1,oQ,by first | rfl | go_num,J ⟨fun _=> aV,fun h=>oQ,fun h=>oQ,fun h=>oQ,fun h=>oQ⟩⟩
    case measure=>simp[intOf]
  ·obtain rfl:t0=false:=hall.out.1 oQ;cases t1 with
   | true =>
    go_wp2;go_ret;exact⟨AV eB,hB⟩
   | false =>
    go_wp2;go_round
    case rel=>exact⟨2,oQ,by first | rfl | go_num,J ⟨fun _=> aV,fun _=> aV,fun h=>oQ,fun h=>oQ,fun h=>oQ⟩⟩
    case measure=>simp[intOf]
  ·obtain rfl:t0=false:=hall.out.1 oQ;obtain rfl:t1=false:=hall.out.2.1 oQ;cases t2 with
   | true =>
    go_wp2;go_ret;exact⟨AV eB,hB⟩
   | false =>
    go_wp2;go_round
    case rel=>exact⟨3,oQ,by first | rfl | go_num,J ⟨fun _=> aV,fun _=> aV,fun _=> aV,fun h=>oQ,fun h=>oQ⟩⟩
    case measure=>simp[intOf]
  ·obtain rfl:t0=false:=hall.out.1 oQ;obtain rfl:t1=false:=hall.out.2.1 oQ;obtain rfl:t2=false:=hall.out.2.2.1 oQ;cases t3 with
   | true =>
    go_wp2;go_ret;exact⟨AV eB,hB⟩
   | false =>
    go_wp2;go_round
    case rel=>exact⟨4,oQ,by first | rfl | go_num,J ⟨fun _=> aV,fun _=> aV,fun _=> aV,fun _=> aV,fun h=>oQ⟩⟩
    case measure=>simp[intOf]
  ·obtain rfl:t0=false:=hall.out.1 oQ;obtain rfl:t1=false:=hall.out.2.1 oQ;obtain rfl:t2=false:=hall.out.2.2.1 oQ;obtain rfl:t3=false:=hall.out.2.2.2.1 oQ;cases t4 with
   | true =>
    go_wp2;go_ret;exact⟨AV eB,hB⟩
   | false =>
    go_wp2;go_round
    case rel=>exact⟨5,oQ,by first | rfl | go_num,J ⟨fun _=> aV,fun _=> aV,fun _=> aV,fun _=> aV,fun _=> aV⟩⟩
    case measure=>simp[intOf]
  ·obtain rfl:t0=false:=hall.out.1 oQ;obtain rfl:t1=false:=hall.out.2.1 oQ;obtain rfl:t2=false:=hall.out.2.2.1 oQ;obtain rfl:t3=false:=hall.out.2.2.2.1 oQ;obtain rfl:t4=false:=hall.out.2.2.2.2 oQ;go_wp2;go_ret;exact⟨AV eB,hB⟩
namespace Qr
structure RT (w:Ab) (toks:List Tok) (b o c:Nat):Prop where
 cap:toks.length+1<=c
 max:c<=Ap
 len:toks.length<=2000
 lt:b<w.heap.size
 lg:∀ t∈toks,Lg t
 ok:TokOk toks
 at_:∀ r,r <:+ toks->w.cell? ⟨b,o+(toks.length - r.length)*3,A0⟩=A3 (.int .i64 (kR (lk r).k))/\w.cell? ⟨b,o+(toks.length - r.length)*3+1,A0⟩=A3 (.string ⟨(tx (lk r)).toArray⟩)/\w.cell? ⟨b,o+(toks.length - r.length)*3+2,A0⟩=A3 (.bool (lk r).g)
theorem RT.below {w w':Ab}{toks:List Tok}{b o c:Nat} (h:RT w toks b o c) (hb:Aa w.heap.size w w'):RT w' toks b o c :=
 ⟨h.cap,h.max,h.len,AN h.lt hb.size,h.lg,h.ok,fun r hr=>⟨A4 hb (h.at_ r hr).1,A4 hb (h.at_ r hr).2.1,A4 hb (h.at_ r hr).2.2⟩⟩
theorem RT.leg {w:Ab}{toks:List Tok}{b o c:Nat} (h:RT w toks b o c) {r:List Tok} (hr:r <:+ toks):Lg (lk r):=lg_lk fun t ht=>h.lg t (hr.subset ht)
theorem tail_suf {r toks:List Tok} (h:r <:+ toks):r.tail <:+ toks:=(List.tail_suffix r).trans h
theorem tail_at {r toks:List Tok} (h:r <:+ toks) (hk:(lk r).k≠0):toks.length - r.tail.length=toks.length - r.length+1:=by
 have h1:=(tail_eats hk).2;have h2:=h.length_le;rw[List.length_tail]at h1 ⊢;omega
def RRes (toks:List Tok) (x:PR) (w:Ab) (e:J8) (w':Ab):Prop :=
 match x with
 | none=>∃ (t:QT) (n:Int),e=.returned (.agg #[.int .i64 t.op,.int .i64 t.fl,.slice t.sa t.sn t.sc,.int .i64 t.a,.int .i64 t.b,.slice t.ka t.kn t.kc,.int .i64 n,.bool false])/\Aa w.heap.size w w'
 | some (q,r)=>∃ t:QT,e=.returned (.agg #[.int .i64 t.op,.int .i64 t.fl,.slice t.sa t.sn t.sc,.int .i64 t.a,.int .i64 t.b,.slice t.ka t.kn t.kc,.int .i64 ((toks.length - r.length:Nat):Int),.bool true])/\QC w.heap.size w' q (encQ t)/\Aa w.heap.size w w'
theorem RRes.bad {toks:List Tok}{w w':Ab}{e:J8} (h:RRes toks A0 w e w'):∃ o f a b sa sn sc ka kn kc n,e=.returned (.agg #[.int .i64 o,.int .i64 f,.slice sa sn sc,.int .i64 a,.int .i64 b,.slice ka kn kc,.int .i64 n,.bool false])/\Aa w.heap.size w w':=by
 obtain⟨⟨o,f,sa,sn,sc,a,b,ka,kn,kc⟩,n,h1,h2⟩:=h;exact⟨o,f,a,b,sa,sn,sc,ka,kn,kc,n,h1,h2⟩
theorem RRes.get {toks:List Tok}{q:Qy}{r:List Tok}{w w':Ab}{e:J8} (h:RRes toks (A3 (q,r)) w e w'):∃ o f a b sa sn sc ka kn kc,e=.returned (.agg #[.int .i64 o,.int .i64 f,.slice sa sn sc,.int .i64 a,.int .i64 b,.slice ka kn kc,.int .i64 ((toks.length - r.length:Nat):Int),.bool true])/\QC w.heap.size w' q [.int .i64 o,.int .i64 f,.slice sa sn sc,.int .i64 a,.int .i64 b,.slice ka kn kc]/\Aa w.heap.size w w':=by
 obtain⟨⟨o,f,sa,sn,sc,a,b,ka,kn,kc⟩,h1,h2,h3⟩:=h;exact⟨o,f,a,b,sa,sn,sc,ka,kn,kc,h1,h2,h3⟩
theorem RRes.mk_none {toks:List Tok}{w w':Ab}{o f a b n:Int}{sa ka:Option Addr}{sn sc kn kc:Nat} (h:Aa w.heap.size w w'):RRes toks A0 w (.returned (.agg #[.int .i64 o,.int .i64 f,.slice sa sn sc,.int .i64 a,.int .i64 b,.slice ka kn kc,.int .i64 n,.bool false])) w' :=
 ⟨⟨o,f,sa,sn,sc,a,b,ka,kn,kc⟩,n,rfl,h⟩
theorem RRes.mk_some {toks r:List Tok}{q:Qy}{w w':Ab}{o f a b n:Int}{sa ka:Option Addr}{sn sc kn kc:Nat} (hn:n=((toks.length - r.length:Nat):Int)) (hq:QC w.heap.size w' q [.int .i64 o,.int .i64 f,.slice sa sn sc,.int .i64 a,.int .i64 b,.slice ka kn kc]) (h:Aa w.heap.size w w'):RRes toks (A3 (q,r)) w (.returned (.agg #[.int .i64 o,.int .i64 f,.slice sa sn sc,.int .i64 a,.int .i64 b,.slice ka kn kc,.int .i64 n,.bool true])) w' :=
 ⟨⟨o,f,sa,sn,sc,a,b,ka,kn,kc⟩,by rw[hn],hq,h⟩
abbrev zeroP:Array Ak:=#[Value.int .i64 0,.int .i64 0,.slice A0 0 0,.int .i64 0,.int .i64 0,.slice A0 0 0,.int .i64 0,.bool false]
theorem put8 {B g:Nat}{a w:Ab} (h:Aa B a w) (hg:B<=g) (v0 v1 v2 v3 v4 v5 v6 v7:Ak):Aa B a ((((((((w.setCell ⟨g,0,A0⟩ v0).setCell ⟨g,1,A0⟩ v1).setCell ⟨g,2,A0⟩ v2).setCell ⟨g,3,A0⟩ v3).setCell ⟨g,4,A0⟩ v4).setCell ⟨g,5,A0⟩ v5).setCell ⟨g,6,A0⟩ v6).setCell ⟨g,7,A0⟩ v7) :=
 (((((((h.setCell hg _).setCell hg _).setCell hg _).setCell hg _).setCell hg _).setCell hg _).setCell hg _).setCell hg _
theorem Kp.put8 {M g:Nat}{a w:Ab} (h:Kp M a w) (hg:g<M) (v0 v1 v2 v3 v4 v5 v6 v7:Ak):Kp M a ((((((((w.setCell ⟨g,0,A0⟩ v0).setCell ⟨g,1,A0⟩ v1).setCell ⟨g,2,A0⟩ v2).setCell ⟨g,3,A0⟩ v3).setCell ⟨g,4,A0⟩ v4).setCell ⟨g,5,A0⟩ v5).setCell ⟨g,6,A0⟩ v6).setCell ⟨g,7,A0⟩ v7) :=
 (((((((h.set hg _).set hg _).set hg _).set hg _).set hg _).set hg _).set hg _).set hg _
theorem Kp.setN {M:Nat}{a w:Ab} (h:Kp M a w) {p:Addr} (hp:a.heap.size<=p.block) (u:Ak):Kp M a (w.setCell p u) :=
 ⟨by simpa [World.setCell] using h.size,fun k h1 h2=>(Below.heap_setCell _ _ _ _ oQ).trans (h.block k h1 h2)⟩
theorem own_words2 {w:Ab}{B:Nat}{v:Ak}{l:List UInt8} (h:w.ownsRow B 9 1 v (Bl l).length ((Bl l).map Tx.sv)) :
  ∃ a c,v=.slice a (Bp l).length c/\SL w (.slice a (Bp l).length c) (Bp l)/\LowS B (.slice a (Bp l).length c) (Bp l):=by
 obtain⟨a,c,rfl,hA⟩:=Qr.own_words h;refine⟨a,c,rfl,hA.sl,fun _ ad l2 c2 e=>?_⟩;injection e with e _ _;subst e;rcases h.2 with⟨h7,_⟩ | ⟨g7,_,_,h7,h8,_⟩
 ·injection h7 with h7 _ _;cases h7
 ·injection h7 with h7 _ _;injection h7 with h7;subst h7;exact h8
end Qr
theorem pt_kind (toks r:List AM) (b o c:Nat) (f:Int) (w:Ab) (h:Qr.RT w toks b o c) (hr:r <:+ toks) (tk:UInt8) (tt:List UInt8) (tg:Bool) (ht:AT r=⟨tk,tt,tg⟩) (h2:tk≠113) (h1:tk≠114) :
  Af A8 305 #[.slice (A3 ⟨b,o,A0⟩) (toks.length+1) c,.int .i64 ((toks.length - r.length:Nat):Int),.int .i64 f] w (Qr.RRes toks (A0) w):=by
 have hleg:=zhv;rw[ht]at hleg;obtain⟨t0,t1,t2⟩:=zfy;rw[ht]at t0 t1 t2;simp only at t0 t1 t2;have hrl:=hr.length_le;have hlen:=h.len;have hbl:=h.lt;have hcap:=h.cap;have hmax:=h.max;have hmx:Ap=9223372036854775807:=rfl;have k2:(Qr.kR tk != 2)=true:=by rw[bne_iff_ne];exact fun e=>h2 ((Qr.kR_eq hleg).1.1 e)
 have k1:(Qr.kR tk != 1)=true:=by rw[bne_iff_ne];exact fun e=>h1 ((Qr.kR_eq hleg).2.1.1 e)
 obtain⟨X,hX⟩:∃ X,Qr.tx ⟨tk,tt,tg⟩=X:=⟨_,rfl⟩;obtain⟨K,hK⟩:=zfh;rw[hX]at t1;rw[hK]at t0 k1 k2;clear hX hK ht h1 h2;obtain⟨A,hA⟩:=zu;rw[hA]at t0 t1 t2 ⊢;have HA:=zfe;have hA1:=zcb;have HH:=J h;clear h;have HLG:=J hleg;clear hleg;obtain⟨W,hW⟩:∃ W,(w.alloc (.cells Qr.zeroP 141)).alloc (.cells #[.int .i64 K,.string ⟨X.toArray⟩,.bool tg] 144)=W:=⟨_,rfl⟩;have hB:=zk;have KR:=zo;have KT:Hid (W.heap[w.heap.size+1]?=A3 (.cells #[.int .i64 K,.string ⟨X.toArray⟩,.bool tg] 144 (0,0))):=J (by rw[<- hW];have:=heap_alloc_new (w.alloc (.cells Qr.zeroP 141)) (.cells #[.int .i64 K,.string ⟨X.toArray⟩,.bool tg] 144);rwa [An]at this);obtain⟨x0,x1,x2,-⟩:=zqn;have hs:=zbs;obtain⟨z0,z1,z2,z3,z4,z5,z6,z7,zf⟩:=zdz;go_enter FG,Fc;go_wp2;refine Aw (v:=.agg #[.int .i64 0,.int .i64 0,.slice A0 0 0,.int .i64 0,.int .i64 0,.slice A0 0 0,.int .i64 0,.bool false]) aF rfl (Qr.RRes.mk_none (Qr.put8 hB (Ad _) _ _ _ _ _ _ _ _))
theorem pt_op (toks r:List AM) (b o c:Nat) (f:Int) (w:Ab) (h:Qr.RT w toks b o c) (hr:r <:+ toks) (tk:UInt8) (tt:List UInt8) (tg:Bool) (ht:AT r=⟨tk,tt,tg⟩) (h1:tk=114) (ha:Ec ⟨tk,tt,tg⟩=true) :
  Af A8 305 #[.slice (A3 ⟨b,o,A0⟩) (toks.length+1) c,.int .i64 ((toks.length - r.length:Nat):Int),.int .i64 f] w (Qr.RRes toks (A0) w):=by
 have hleg:=zhv;rw[ht]at hleg;obtain⟨t0,t1,t2⟩:=zfy;rw[ht]at t0 t1 t2;simp only at t0 t1 t2;have hrl:=hr.length_le;have hlen:=h.len;have hbl:=h.lt;have hcap:=h.cap;have hmax:=h.max;have hmx:Ap=9223372036854775807:=rfl;subst h1;have hop:=zbp;rw[ha]at hop;rw[show Qr.tx ⟨114,tt,tg⟩=tt from rfl]at t1 hop;rw[show Qr.kR 114=1 from rfl]at t0 hop;clear ht ha;obtain⟨A,hA⟩:=zu;rw[hA]at t0 t1 t2 ⊢;have HA:=zfe;have hA1:=zcb;have HH:=J h;clear h;have HLG:=J hleg;clear hleg;obtain⟨W,hW⟩:=zba;have hB:=zk;have KR:=zo;have KT:=zj;obtain⟨x0,x1,x2,-⟩:=zqn;have hs:=zbs;go_enter FG,Fc;go_wp2_with (go_at_call 293;refine (hop.out _).mono ?_;rintro e w2 ⟨rfl,hb2⟩;replace KR:=J (A6 KR.out hb2);obtain⟨z0,z1,z2,z3,z4,z5,z6,z7,zf⟩:=zdz);refine Aw (v:=.agg #[.int .i64 0,.int .i64 0,.slice A0 0 0,.int .i64 0,.int .i64 0,.slice A0 0 0,.int .i64 0,.bool false]) aF rfl (Qr.RRes.mk_none (Qr.put8 (hB.trans (hb2.mono hB.size)) (Ad _) _ _ _ _ _ _ _ _))
theorem yfi (h:P:=by
 have:=h.ok (AT r) (hr.subset (Qr.lk_mem (by rw[ht];simp)));rw[ht]at this;exact this):P:=h
theorem pt_nil_q (toks r:List AM) (b o c:Nat) (f:Int) (w:Ab) (h:Qr.RT w toks b o c) (hr:r <:+ toks) (tk:UInt8) (tt:List UInt8) (tg:Bool) (ht:AT r=⟨tk,tt,tg⟩) (h1:tk=113) (hx:Bp tt=[]) :
  Af A8 305 #[.slice (A3 ⟨b,o,A0⟩) (toks.length+1) c,.int .i64 ((toks.length - r.length:Nat):Int),.int .i64 f] w (Qr.RRes toks (A0) w):=by
 have hleg:=zhv;rw[ht]at hleg;obtain⟨t0,t1,t2⟩:=zfy;rw[ht]at t0 t1 t2;simp only at t0 t1 t2;have hrl:=hr.length_le;have hlen:=h.len;have hbl:=h.lt;have hcap:=h.cap;have hmax:=h.max;have hmx:Ap=9223372036854775807:=rfl;subst h1;rw[show Qr.tx ⟨113,tt,tg⟩=tt from rfl]at t1;rw[show Qr.kR 113=2 from rfl]at t0
 have htok:AE tt=true/\tt.length<=1000:=by
  exact yfi
 have hsz:=zam;obtain⟨xs,hxs⟩:=zdw;have HXS:=zml
 have hxl:xs.length<=2000:=by
  rw[<- hxs,EP];have:=F5 htok.1;omega
 rw[hx]at hxs;subst hxs;clear ht hx htok;obtain⟨A,hA⟩:=zu;rw[hA]at t0 t1 t2 ⊢;have HA:=zfe;have hA1:=zcb;have HH:=J h;clear h;have HLG:=J hleg;clear hleg;obtain⟨W,hW⟩:=zex;have hB:=zk;have KR:=zo;have KT:=zan;obtain⟨x0,x1,x2,-⟩:=zqn;have hs:=zbs;go_enter FG,Fc
 go_wp2_with (first
  |(go_at_call 212;refine (r01_Words_c ⟨tt.toArray⟩ _ oQ).mono ?_;rintro e w3 ⟨v,rfl,hown,hb3⟩;obtain⟨sa,sc,rfl,hSL,hLo⟩:=znj;clear hown;rw[HXS.out]at hSL hLo ⊢;have s3:=hb3.size;replace KR:=J (A6 KR.out hb3);replace KT:=J (A6 KT.out hb3);obtain⟨y0,-⟩:=zru;have HSL:=J hSL;have HLO:=J hLo;clear hSL hLo;obtain⟨z0,z1,z2,z3,z4,z5,z6,z7,zf⟩:=zdz))
 refine Aw (v:=.agg #[.int .i64 0,.int .i64 0,.slice A0 0 0,.int .i64 0,.int .i64 0,.slice A0 0 0,.int .i64 0,.bool false]) aF rfl (Qr.RRes.mk_none (Qr.put8 (hB.trans (hb3.mono hB.size)) (Ad _) _ _ _ _ _ _ _ _))
theorem pt_nil_r (toks r:List AM) (b o c:Nat) (f:Int) (w:Ab) (h:Qr.RT w toks b o c) (hr:r <:+ toks) (tk:UInt8) (tt:List UInt8) (tg:Bool) (ht:AT r=⟨tk,tt,tg⟩) (h1:tk=114) (ha:Ec ⟨tk,tt,tg⟩=false) (hx:Bp tt=[]) :
  Af A8 305 #[.slice (A3 ⟨b,o,A0⟩) (toks.length+1) c,.int .i64 ((toks.length - r.length:Nat):Int),.int .i64 f] w (Qr.RRes toks (A0) w):=by
 have hleg:=zhv;rw[ht]at hleg;obtain⟨t0,t1,t2⟩:=zfy;rw[ht]at t0 t1 t2;simp only at t0 t1 t2;have hrl:=hr.length_le;have hlen:=h.len;have hbl:=h.lt;have hcap:=h.cap;have hmax:=h.max;have hmx:Ap=9223372036854775807:=rfl;subst h1;rw[show Qr.tx ⟨114,tt,tg⟩=tt from rfl]at t1;rw[show Qr.kR 114=1 from rfl]at t0
 have htok:AE tt=true/\tt.length<=1000:=by
  exact yfi
 have hsz:=zam;obtain⟨xs,hxs⟩:=zdw;have HXS:=zml
 have hxl:xs.length<=2000:=by
  rw[<- hxs,EP];have:=F5 htok.1;omega
 have hop:=zbp;rw[ha]at hop;rw[show Qr.tx ⟨114,tt,tg⟩=tt from rfl,show Qr.kR 114=1 from rfl]at hop;rw[hx]at hxs;subst hxs;clear ht hx htok ha;obtain⟨A,hA⟩:=zu;rw[hA]at t0 t1 t2 ⊢;have HA:=zfe;have hA1:=zcb;have HH:=J h;clear h;have HLG:=J hleg;clear hleg;obtain⟨W,hW⟩:=zba;have hB:=zk;have KR:=zo;have KT:=zj;obtain⟨x0,x1,x2,-⟩:=zqn;have hs:=zbs;go_enter FG,Fc
 go_wp2_with (first
  |(go_at_call 212;refine (r01_Words_c ⟨tt.toArray⟩ _ oQ).mono ?_;rintro e w3 ⟨v,rfl,hown,hb3⟩;obtain⟨sa,sc,rfl,hSL,hLo⟩:=znj;clear hown;rw[HXS.out]at hSL hLo ⊢;have s3:=hb3.size;replace KR:=J (A6 KR.out hb3);replace KT:=J (A6 KT.out hb3);obtain⟨y0,-⟩:=zru;have HSL:=J hSL;have HLO:=J hLo;clear hSL hLo;obtain⟨z0,z1,z2,z3,z4,z5,z6,z7,zf⟩:=zdz)
  |(go_at_call 293;refine (hop.out _).mono ?_;rintro e w2 ⟨rfl,hb2⟩;replace KR:=J (A6 KR.out hb2);replace KT:=J (A6 KT.out hb2);have s2:=hb2.size;obtain⟨-,e1,-⟩:=Tx.c2 KT.out))
 refine Aw (v:=.agg #[.int .i64 0,.int .i64 0,.slice A0 0 0,.int .i64 0,.int .i64 0,.slice A0 0 0,.int .i64 0,.bool false]) aF rfl (Qr.RRes.mk_none (Qr.put8 (hB.trans (hb2.mono hB.size) |> fun h9=>h9.trans (hb3.mono h9.size)) (Ad _) _ _ _ _ _ _ _ _))
theorem yzb (h:P:=by
 rw[hxs]at hx;intro h9;exact hx (List.eq_nil_of_length_eq_zero oQ)):P:=h
theorem pt_phrase_q (toks r:List AM) (b o c:Nat) (f:Int) (w:Ab) (h:Qr.RT w toks b o c) (hr:r <:+ toks) (tk:UInt8) (tt:List UInt8) (tg:Bool) (ht:AT r=⟨tk,tt,tg⟩) (h1:tk=113) (hx:Bp tt≠[]) :
  Af A8 305 #[.slice (A3 ⟨b,o,A0⟩) (toks.length+1) c,.int .i64 ((toks.length - r.length:Nat):Int),.int .i64 f] w (Qr.RRes toks (A3 (.mk 3 f (Bp tt) 0 0 [],r.tail)) w):=by
 have hleg:=zhv;rw[ht]at hleg;obtain⟨t0,t1,t2⟩:=zfy;rw[ht]at t0 t1 t2;simp only at t0 t1 t2;have hrl:=hr.length_le;have hlen:=h.len;have hbl:=h.lt;have hcap:=h.cap;have hmax:=h.max;have hmx:Ap=9223372036854775807:=rfl;have hta:=zef;subst h1;rw[show Qr.tx ⟨113,tt,tg⟩=tt from rfl]at t1;rw[show Qr.kR 113=2 from rfl]at t0
 have htok:AE tt=true/\tt.length<=1000:=by
  exact yfi
 have hsz:=zam;obtain⟨xs,hxs⟩:=zdw;have HXS:=zml
 have hxl:xs.length<=2000:=by
  rw[<- hxs,EP];have:=F5 htok.1;omega
 rw[hxs]
 have hxne:¬ (xs.length:Int)=0:=by
  exact yzb
 have HTA:=J hta;clear ht hx htok hxs hta;obtain⟨A,hA⟩:=zu;rw[hA]at t0 t1 t2 ⊢;have HA:=zfe;have hA1:=zcb;have HH:=J h;clear h;have HLG:=J hleg;clear hleg;obtain⟨W,hW⟩:=zex;have hB:=zk;have KR:=zo;have KT:=zan;obtain⟨x0,x1,x2,-⟩:=zqn;have hs:=zbs;go_enter FG,Fc;go_wp2_with (go_at_call 212;refine (r01_Words_c ⟨tt.toArray⟩ _ oQ).mono ?_;rintro e w3 ⟨v,rfl,hown,hb3⟩;obtain⟨sa,sc,rfl,hSL,hLo⟩:=znj;clear hown;rw[HXS.out]at hSL hLo ⊢;have s3:=hb3.size;replace KR:=J (A6 KR.out hb3);replace KT:=J (A6 KT.out hb3);obtain⟨y0,-⟩:=zru;have HSL:=J hSL;have HLO:=J hLo;clear hSL hLo;have ew3:=zeq;have kr3:=A6 KR.out ew3;replace KR:=J kr3;clear kr3;have kt3:=A6 KT.out ew3;obtain⟨yy0,-⟩:=Tx.c1 kt3;clear kt3;obtain⟨z0,z1,z2,z3,z4,z5,z6,z7,zf⟩:=zdz);have hP:=Qr.put8 ((hB.trans (hb3.mono hB.size)).alloc (Au hB.size s3) (.cells #[.int .i64 3,.int .i64 f,.slice sa xs.length sc,.int .i64 0,.int .i64 0,.slice A0 0 0] 29)) (Ad _) (.int .i64 3) (.int .i64 f) (.slice sa xs.length sc) (.int .i64 0) (.int .i64 0) (.slice A0 0 0) (.int .i64 ((A:Int)+1)) (.bool true);refine Aw (v:=.agg #[.int .i64 3,.int .i64 f,.slice sa xs.length sc,.int .i64 0,.int .i64 0,.slice A0 0 0,.int .i64 ((A:Int)+1),.bool true]) aF rfl (Qr.RRes.mk_some yY (Cw (ws:=xs) (ks:=[]) (Qr.Kp.sl2 HSL.out (fun h1 ad l c2 h9=>Au oQ (HLO.out h1 ad l c2 h9)) ((Bc (A9 w3 _)).put8 (M:=w.heap.size+1) oQ _ _ _ _ _ _ _ _)) (fun h1 ad l c2 h9=>Au oQ (HLO.out h1 ad l c2 h9)) (EI _ _)) hP)
theorem pt_s1 (toks r:List AM) (b o c:Nat) (f:Int) (w:Ab) (h:Qr.RT w toks b o c) (hr:r <:+ toks) (tk:UInt8) (tt:List UInt8) (tg:Bool) (ht:AT r=⟨tk,tt,tg⟩) (h1:tk=114) (ha:Ec ⟨tk,tt,tg⟩=false) (nk:UInt8) (nt:List UInt8) (ng:Bool) (hn:AT r.tail=⟨nk,nt,ng⟩) (hk:nk=42) (hg:ng=true) (hl:(Bp tt).length=1) :
  Af A8 305 #[.slice (A3 ⟨b,o,A0⟩) (toks.length+1) c,.int .i64 ((toks.length - r.length:Nat):Int),.int .i64 f] w (Qr.RRes toks (A3 (.mk 2 f (Bp tt) 0 0 [],r.tail.tail)) w):=by
 have hleg:=zhv;rw[ht]at hleg;obtain⟨t0,t1,t2⟩:=zfy;rw[ht]at t0 t1 t2;simp only at t0 t1 t2;have hrl:=hr.length_le;have hlen:=h.len;have hbl:=h.lt;have hcap:=h.cap;have hmax:=h.max;have hmx:Ap=9223372036854775807:=rfl;have hta:=zef;have hlegn:=zeu;rw[hn]at hlegn;obtain⟨n0,n1,n2⟩:=zco;rw[hn,hta]at n0 n1 n2;simp only at n0 n1 n2;have hsf:=zdf;have hte:=zdi;subst h1;rw[show Qr.tx ⟨114,tt,tg⟩=tt from rfl]at t1;rw[show Qr.kR 114=1 from rfl]at t0
 have htok:AE tt=true/\tt.length<=1000:=by
  exact yfi
 have hsz:=zam;obtain⟨xs,hxs⟩:=zdw;have HXS:=zml
 have hxl:xs.length<=2000:=by
  rw[<- hxs,EP];have:=F5 htok.1;omega
 have hop:=zbp;rw[ha]at hop;rw[show Qr.tx ⟨114,tt,tg⟩=tt from rfl,show Qr.kR 114=1 from rfl]at hop;have his:=zca;obtain⟨NX,hNX⟩:=zgz;obtain⟨NK,hNK⟩:=zeg;rw[hNX]at n1 his;rw[hNK]at n0 his;simp only at his;have hta2:=Qr.tail_at (Qr.tail_suf hr) (by rw[hn,hk];simp);have HTB:=J hta2;clear hta2;rw[hxs];have hl1:xs.length=1:=by rw[<- hxs];exact hl
 have hl1i:(xs.length:Int)=1:=oQ;subst hk;subst hg;rw[show ((42:UInt8) == 42)=true from rfl]at his;have HTA:=J hta;clear ht htok hta hn hNX hNK ha hlegn hxs hl;obtain⟨A,hA⟩:=zu;rw[hA]at t0 t1 t2 n0 n1 n2 ⊢;have HA:=zfe;have hA1:=zcb;have HH:=J h;clear h;have HLG:=J hleg;clear hleg;obtain⟨W,hW⟩:=zba;have hB:=zk;have KR:=zo;have KT:=zj;obtain⟨x0,x1,x2,-⟩:=zqn;have hs:=zbs;have N0:=J n0;have N1:=J n1;have N2:=J n2;clear n0 n1 n2;have HL1:=J hl1;clear hl1;go_enter FG,Fc
 go_wp2_with (first
  |(go_at_call 292;refine (his.out _).mono ?_;rintro e w4 ⟨rfl,hb4⟩;have s4:=hb4.size;rw[An]at s4;replace KR:=J (A6 KR.out hb4);replace KT:=J (A6 KT.out hb4);replace KQ:=J (A6 KQ.out hb4);have h4B:Aa w.heap.size w w4:=(h3B.alloc h3B.size _).trans (hb4.mono (Au h3B.size oZ));have p2:=A4 h4B N2.out;obtain⟨yy,-⟩:=zru;obtain⟨z0,z1,z2,z3,z4,z5,z6,z7,zf⟩:=zdz;obtain⟨q0,q1,q2,q3,q4,q5,qf⟩:=Tx.c6 KQ.out)
  |(go_at_call 212;refine (r01_Words_c ⟨tt.toArray⟩ _ oQ).mono ?_;rintro e w3 ⟨v,rfl,hown,hb3⟩;obtain⟨sa,sc,rfl,hSL,hLo⟩:=znj;clear hown;rw[HXS.out]at hSL hLo ⊢;have s3:=hb3.size;replace KR:=J (A6 KR.out hb3);replace KT:=J (A6 KT.out hb3);obtain⟨y0,-⟩:=zru;have HSL:=J hSL;have HLO:=J hLo;clear hSL hLo;have h3B:Aa w.heap.size w w3:=hB.trans ((Ac hb2 hb3).mono hB.size);have ew3:=zeq;have kr3:=A6 KR.out ew3;replace KR:=J kr3;clear kr3;have kt3:=A6 KT.out ew3;replace KT:=J kt3;clear kt3;obtain⟨yy0,-⟩:=zru;have KQ:=zqx;have m0:=A4 h3B N0.out;have m1:=A4 h3B N1.out;have m2:=A4 h3B N2.out;have hb3s:b<w3.heap.size:=AN hbl h3B.size)
  |(go_at_call 293;refine (hop.out _).mono ?_;rintro e w2 ⟨rfl,hb2⟩;replace KR:=J (A6 KR.out hb2);replace KT:=J (A6 KT.out hb2);have s2:=hb2.size;obtain⟨-,e1,-⟩:=Tx.c2 KT.out))
 have hP:=Qr.put8 (Tx.put6 h4B (show w.heap.size<=w3.heap.size from h3B.size) (.int .i64 2) (.int .i64 f) (.slice sa xs.length sc) (.int .i64 0) (.int .i64 0) (.slice A0 0 0)) (Ad _) (.int .i64 2) (.int .i64 f) (.slice sa xs.length sc) (.int .i64 0) (.int .i64 0) (.slice A0 0 0) (.int .i64 ((A:Int)+1+1)) (.bool true);refine Aw (v:=.agg #[.int .i64 2,.int .i64 f,.slice sa xs.length sc,.int .i64 0,.int .i64 0,.slice A0 0 0,.int .i64 ((A:Int)+1+1),.bool true]) aF rfl (Qr.RRes.mk_some (by rw[HTB.out,HTA.out,HA.out];omega) (Cw (ws:=xs) (ks:=[]) (Qr.Kp.sl2 HSL.out (fun h1 ad l c2 h9=>Au oQ (HLO.out h1 ad l c2 h9)) ((((((((Bc (A9 w3 _)).trans (Bc hb4)).setN (p:=⟨w3.heap.size,0,A0⟩) (Ad _) _).setN (p:=⟨w3.heap.size,1,A0⟩) (Ad _) _).setN (p:=⟨w3.heap.size,2,A0⟩) (Ad _) _).setN (p:=⟨w3.heap.size,3,A0⟩) (Ad _) _).setN (p:=⟨w3.heap.size,4,A0⟩) (Ad _) _).setN (p:=⟨w3.heap.size,5,A0⟩) (Ad _) _ |>.put8 (M:=w.heap.size+1) oQ _ _ _ _ _ _ _ _)) (fun h1 ad l c2 h9=>Au oQ (HLO.out h1 ad l c2 h9)) (EI _ _)) hP)
theorem pt_s0 (toks r:List AM) (b o c:Nat) (f:Int) (w:Ab) (h:Qr.RT w toks b o c) (hr:r <:+ toks) (tk:UInt8) (tt:List UInt8) (tg:Bool) (ht:AT r=⟨tk,tt,tg⟩) (h1:tk=114) (ha:Ec ⟨tk,tt,tg⟩=false) (nk:UInt8) (nt:List UInt8) (ng:Bool) (hn:AT r.tail=⟨nk,nt,ng⟩) (hk:nk=42) (hg:ng=true) (hl:¬ (Bp tt).length=1) (hx:Bp tt≠[]) :
  Af A8 305 #[.slice (A3 ⟨b,o,A0⟩) (toks.length+1) c,.int .i64 ((toks.length - r.length:Nat):Int),.int .i64 f] w (Qr.RRes toks (A0) w):=by
 have hleg:=zhv;rw[ht]at hleg;obtain⟨t0,t1,t2⟩:=zfy;rw[ht]at t0 t1 t2;simp only at t0 t1 t2;have hrl:=hr.length_le;have hlen:=h.len;have hbl:=h.lt;have hcap:=h.cap;have hmax:=h.max;have hmx:Ap=9223372036854775807:=rfl;have hta:=zef;have hlegn:=zeu;rw[hn]at hlegn;obtain⟨n0,n1,n2⟩:=zco;rw[hn,hta]at n0 n1 n2;simp only at n0 n1 n2;have hsf:=zdf;have hte:=zdi;subst h1;rw[show Qr.tx ⟨114,tt,tg⟩=tt from rfl]at t1;rw[show Qr.kR 114=1 from rfl]at t0
 have htok:AE tt=true/\tt.length<=1000:=by
  exact yfi
 have hsz:=zam;obtain⟨xs,hxs⟩:=zdw;have HXS:=zml
 have hxl:xs.length<=2000:=by
  rw[<- hxs,EP];have:=F5 htok.1;omega
 have hop:=zbp;rw[ha]at hop;rw[show Qr.tx ⟨114,tt,tg⟩=tt from rfl,show Qr.kR 114=1 from rfl]at hop;have his:=zca;obtain⟨NX,hNX⟩:=zgz;obtain⟨NK,hNK⟩:=zeg;rw[hNX]at n1 his;rw[hNK]at n0 his;simp only at his;have hln:¬ (xs.length:Int)=1:=by rw[<- hxs];omega
 have hlb:=zmy
 have hxne:¬ (xs.length:Int)=0:=by
  exact yzb
 subst hk;subst hg;rw[show ((42:UInt8) == 42)=true from rfl]at his;have HTA:=J hta;clear ht htok hta hn hNX hNK ha hlegn hxs hl hx;obtain⟨A,hA⟩:=zu;rw[hA]at t0 t1 t2 n0 n1 n2 ⊢;have HA:=zfe;have hA1:=zcb;have HH:=J h;clear h;have HLG:=J hleg;clear hleg;obtain⟨W,hW⟩:=zba;have hB:=zk;have KR:=zo;have KT:=zj;obtain⟨x0,x1,x2,-⟩:=zqn;have hs:=zbs;have N0:=J n0;have N1:=J n1;have N2:=J n2;clear n0 n1 n2;go_enter FG,Fc
 go_wp2_with (first
  |(go_at_call 292;refine (his.out _).mono ?_;rintro e w4 ⟨rfl,hb4⟩;have s4:=hb4.size;rw[An]at s4;replace KR:=J (A6 KR.out hb4);replace KT:=J (A6 KT.out hb4);replace KQ:=J (A6 KQ.out hb4);have h4B:Aa w.heap.size w w4:=(h3B.alloc h3B.size _).trans (hb4.mono (Au h3B.size oZ));have p2:=A4 h4B N2.out;obtain⟨yy,-⟩:=zru;obtain⟨z0,z1,z2,z3,z4,z5,z6,z7,zf⟩:=zdz;obtain⟨q0,q1,q2,q3,q4,q5,qf⟩:=Tx.c6 KQ.out)
  |(go_at_call 212;refine (r01_Words_c ⟨tt.toArray⟩ _ oQ).mono ?_;rintro e w3 ⟨v,rfl,hown,hb3⟩;obtain⟨sa,sc,rfl,hSL,hLo⟩:=znj;clear hown;rw[HXS.out]at hSL hLo ⊢;have s3:=hb3.size;replace KR:=J (A6 KR.out hb3);replace KT:=J (A6 KT.out hb3);obtain⟨y0,-⟩:=zru;have HSL:=J hSL;have HLO:=J hLo;clear hSL hLo;have h3B:Aa w.heap.size w w3:=hB.trans ((Ac hb2 hb3).mono hB.size);have ew3:=zeq;have kr3:=A6 KR.out ew3;replace KR:=J kr3;clear kr3;have kt3:=A6 KT.out ew3;replace KT:=J kt3;clear kt3;obtain⟨yy0,-⟩:=zru;have KQ:=zqx;have m0:=A4 h3B N0.out;have m1:=A4 h3B N1.out;have m2:=A4 h3B N2.out;have hb3s:b<w3.heap.size:=AN hbl h3B.size)
  |(go_at_call 293;refine (hop.out _).mono ?_;rintro e w2 ⟨rfl,hb2⟩;replace KR:=J (A6 KR.out hb2);replace KT:=J (A6 KT.out hb2);have s2:=hb2.size;obtain⟨-,e1,-⟩:=Tx.c2 KT.out))
 have hP:=Qr.put8 (Tx.put6 h4B (show w.heap.size<=w3.heap.size from h3B.size) (.int .i64 2) (.int .i64 f) (.slice sa xs.length sc) (.int .i64 0) (.int .i64 0) (.slice A0 0 0)) (Ad _) (.int .i64 2) (.int .i64 f) (.slice sa xs.length sc) (.int .i64 0) (.int .i64 0) (.slice A0 0 0) (.int .i64 ((A:Int)+1+1)) (.bool false);refine Aw (v:=.agg #[.int .i64 2,.int .i64 f,.slice sa xs.length sc,.int .i64 0,.int .i64 0,.slice A0 0 0,.int .i64 ((A:Int)+1+1),.bool false]) aF rfl (Qr.RRes.mk_none hP)
theorem y33 (h:P:=by
 obtain⟨A,hA⟩:=zu;rw[hA]at t0 t1 t2 n0 n1 n2 ⊢;have HA:=zfe;have hA1:=zcb;have HH:=J h;clear h;have HLG:=J hleg;clear hleg;obtain⟨W,hW⟩:=zba;have hB:=zk;have KR:=zo;have KT:=zj;obtain⟨x0,x1,x2,-⟩:=zqn;have hs:=zbs;have N0:=J n0;have N1:=J n1;have N2:=J n2;clear n0 n1 n2;have HL1:=J hl1;clear hl1;go_enter FG,Fc
 go_wp2_with (first
  |(go_at_call 292;refine (his.out _).mono ?_;rintro e w4 ⟨rfl,hb4⟩;have s4:=hb4.size;rw[An]at s4;replace KR:=J (A6 KR.out hb4);replace KT:=J (A6 KT.out hb4);replace KQ:=J (A6 KQ.out hb4);have h4B:Aa w.heap.size w w4:=(h3B.alloc h3B.size _).trans (hb4.mono (Au h3B.size oZ));have p2:=A4 h4B N2.out;obtain⟨yy,-⟩:=zru;obtain⟨z0,z1,z2,z3,z4,z5,z6,z7,zf⟩:=zdz;obtain⟨q0,q1,q2,q3,q4,q5,qf⟩:=Tx.c6 KQ.out)
  |(go_at_call 212;refine (r01_Words_c ⟨tt.toArray⟩ _ oQ).mono ?_;rintro e w3 ⟨v,rfl,hown,hb3⟩;obtain⟨sa,sc,rfl,hSL,hLo⟩:=znj;clear hown;rw[HXS.out]at hSL hLo ⊢;have s3:=hb3.size;replace KR:=J (A6 KR.out hb3);replace KT:=J (A6 KT.out hb3);obtain⟨y0,-⟩:=zru;have HSL:=J hSL;have HLO:=J hLo;clear hSL hLo;have h3B:Aa w.heap.size w w3:=hB.trans ((Ac hb2 hb3).mono hB.size);have ew3:=zeq;have kr3:=A6 KR.out ew3;replace KR:=J kr3;clear kr3;have kt3:=A6 KT.out ew3;replace KT:=J kt3;clear kt3;obtain⟨yy0,-⟩:=zru;have KQ:=zqx;have m0:=A4 h3B N0.out;have m1:=A4 h3B N1.out;have m2:=A4 h3B N2.out;have hb3s:b<w3.heap.size:=AN hbl h3B.size)
  |(go_at_call 293;refine (hop.out _).mono ?_;rintro e w2 ⟨rfl,hb2⟩;replace KR:=J (A6 KR.out hb2);replace KT:=J (A6 KT.out hb2);have s2:=hb2.size;obtain⟨-,e1,-⟩:=Tx.c2 KT.out))
 have hP:=Qr.put8 (Tx.put6 h4B (show w.heap.size<=w3.heap.size from h3B.size) (.int .i64 1) (.int .i64 f) (.slice sa xs.length sc) (.int .i64 0) (.int .i64 0) (.slice A0 0 0)) (Ad _) (.int .i64 1) (.int .i64 f) (.slice sa xs.length sc) (.int .i64 0) (.int .i64 0) (.slice A0 0 0) (.int .i64 ((A:Int)+1)) (.bool true);refine Aw (v:=.agg #[.int .i64 1,.int .i64 f,.slice sa xs.length sc,.int .i64 0,.int .i64 0,.slice A0 0 0,.int .i64 ((A:Int)+1),.bool true]) aF rfl (Qr.RRes.mk_some yY (Cw (ws:=xs) (ks:=[]) (Qr.Kp.sl2 HSL.out (fun h1 ad l c2 h9=>Au oQ (HLO.out h1 ad l c2 h9)) ((((((((Bc (A9 w3 _)).trans (Bc hb4)).setN (p:=⟨w3.heap.size,0,A0⟩) (Ad _) _).setN (p:=⟨w3.heap.size,1,A0⟩) (Ad _) _).setN (p:=⟨w3.heap.size,2,A0⟩) (Ad _) _).setN (p:=⟨w3.heap.size,3,A0⟩) (Ad _) _).setN (p:=⟨w3.heap.size,4,A0⟩) (Ad _) _).setN (p:=⟨w3.heap.size,5,A0⟩) (Ad _) _ |>.put8 (M:=w.heap.size+1) oQ _ _ _ _ _ _ _ _)) (fun h1 ad l c2 h9=>Au oQ (HLO.out h1 ad l c2 h9)) (EI _ _)) hP)):P:=h
theorem vz9 (h:P:=by
 have hleg:=zhv;rw[ht]at hleg;obtain⟨t0,t1,t2⟩:=zfy;rw[ht]at t0 t1 t2;simp only at t0 t1 t2;have hrl:=hr.length_le;have hlen:=h.len;have hbl:=h.lt;have hcap:=h.cap;have hmax:=h.max;have hmx:Ap=9223372036854775807:=rfl;have hta:=zef;have hlegn:=zeu;rw[hn]at hlegn;obtain⟨n0,n1,n2⟩:=zco;rw[hn,hta]at n0 n1 n2;simp only at n0 n1 n2;have hsf:=zdf;have hte:=zdi;subst h1;rw[show Qr.tx ⟨114,tt,tg⟩=tt from rfl]at t1;rw[show Qr.kR 114=1 from rfl]at t0
 have htok:AE tt=true/\tt.length<=1000:=by
  exact yfi
 have hsz:=zam;obtain⟨xs,hxs⟩:=zdw;have HXS:=zml
 have hxl:xs.length<=2000:=by
  rw[<- hxs,EP];have:=F5 htok.1;omega
 have hop:=zbp;rw[ha]at hop;rw[show Qr.tx ⟨114,tt,tg⟩=tt from rfl,show Qr.kR 114=1 from rfl]at hop;have his:=zca;obtain⟨NX,hNX⟩:=zgz;obtain⟨NK,hNK⟩:=zeg;rw[hNX]at n1 his;rw[hNK]at n0 his;simp only at his;rw[hxs]
 first
  |guard_hyp hx;have hln:¬ (xs.length:Int)=1:=by rw[<- hxs];omega
   have hlb:=zmy
   have hxne:¬ (xs.length:Int)=0:=by
    exact yzb
   first
    |guard_hyp hg;subst hk
     subst hg;rw[show ((42:UInt8) == 42)=true from rfl]at his;have HTA:=J hta;clear ht htok hta hn hNX hNK ha hlegn hxs hl hx;exact yje
    |rw[hk]at his
     have HTA:=J hta;clear ht htok hta hn hNX hNK ha hlegn hxs hl hx hk;exact yje
  |have hl1:xs.length=1:=by rw[<- hxs];exact hl
   have hl1i:(xs.length:Int)=1:=oQ
   first
    |guard_hyp hg;subst hk
     subst hg;rw[show ((42:UInt8) == 42)=true from rfl]at his;have HTA:=J hta;clear ht htok hta hn hNX hNK ha hlegn hxs hl;exact y33
    |rw[hk]at his
     have HTA:=J hta;clear ht htok hta hn hNX hNK ha hlegn hxs hl hk;exact y33):P:=h
theorem vee (h:P:=by
 exact vz9):P:=h
theorem pt_g1 (toks r:List AM) (b o c:Nat) (f:Int) (w:Ab) (h:Qr.RT w toks b o c) (hr:r <:+ toks) (tk:UInt8) (tt:List UInt8) (tg:Bool) (ht:AT r=⟨tk,tt,tg⟩) (h1:tk=114) (ha:Ec ⟨tk,tt,tg⟩=false) (nk:UInt8) (nt:List UInt8) (ng:Bool) (hn:AT r.tail=⟨nk,nt,ng⟩) (hk:nk=42) (hg:ng=false) (hl:(Bp tt).length=1) :
  Af A8 305 #[.slice (A3 ⟨b,o,A0⟩) (toks.length+1) c,.int .i64 ((toks.length - r.length:Nat):Int),.int .i64 f] w (Qr.RRes toks (A3 (.mk 1 f (Bp tt) 0 0 [],r.tail)) w):=by
 exact vee
theorem yje (h:P:=by
 obtain⟨A,hA⟩:=zu;rw[hA]at t0 t1 t2 n0 n1 n2 ⊢;have HA:=zfe;have hA1:=zcb;have HH:=J h;clear h;have HLG:=J hleg;clear hleg;obtain⟨W,hW⟩:=zba;have hB:=zk;have KR:=zo;have KT:=zj;obtain⟨x0,x1,x2,-⟩:=zqn;have hs:=zbs;have N0:=J n0;have N1:=J n1;have N2:=J n2;clear n0 n1 n2;go_enter FG,Fc
 go_wp2_with (first
  |(go_at_call 292;refine (his.out _).mono ?_;rintro e w4 ⟨rfl,hb4⟩;have s4:=hb4.size;rw[An]at s4;replace KR:=J (A6 KR.out hb4);replace KT:=J (A6 KT.out hb4);replace KQ:=J (A6 KQ.out hb4);have h4B:Aa w.heap.size w w4:=(h3B.alloc h3B.size _).trans (hb4.mono (Au h3B.size oZ));have p2:=A4 h4B N2.out;obtain⟨yy,-⟩:=zru;obtain⟨z0,z1,z2,z3,z4,z5,z6,z7,zf⟩:=zdz;obtain⟨q0,q1,q2,q3,q4,q5,qf⟩:=Tx.c6 KQ.out)
  |(go_at_call 212;refine (r01_Words_c ⟨tt.toArray⟩ _ oQ).mono ?_;rintro e w3 ⟨v,rfl,hown,hb3⟩;obtain⟨sa,sc,rfl,hSL,hLo⟩:=znj;clear hown;rw[HXS.out]at hSL hLo ⊢;have s3:=hb3.size;replace KR:=J (A6 KR.out hb3);replace KT:=J (A6 KT.out hb3);obtain⟨y0,-⟩:=zru;have HSL:=J hSL;have HLO:=J hLo;clear hSL hLo;have h3B:Aa w.heap.size w w3:=hB.trans ((Ac hb2 hb3).mono hB.size);have ew3:=zeq;have kr3:=A6 KR.out ew3;replace KR:=J kr3;clear kr3;have kt3:=A6 KT.out ew3;replace KT:=J kt3;clear kt3;obtain⟨yy0,-⟩:=zru;have KQ:=zqx;have m0:=A4 h3B N0.out;have m1:=A4 h3B N1.out;have m2:=A4 h3B N2.out;have hb3s:b<w3.heap.size:=AN hbl h3B.size)
  |(go_at_call 293;refine (hop.out _).mono ?_;rintro e w2 ⟨rfl,hb2⟩;replace KR:=J (A6 KR.out hb2);replace KT:=J (A6 KT.out hb2);have s2:=hb2.size;obtain⟨-,e1,-⟩:=Tx.c2 KT.out))
 have hP:=Qr.put8 h4B (Ad _) (.int .i64 3) (.int .i64 f) (.slice sa xs.length sc) (.int .i64 0) (.int .i64 0) (.slice A0 0 0) (.int .i64 ((A:Int)+1)) (.bool true);refine Aw (v:=.agg #[.int .i64 3,.int .i64 f,.slice sa xs.length sc,.int .i64 0,.int .i64 0,.slice A0 0 0,.int .i64 ((A:Int)+1),.bool true]) aF rfl (Qr.RRes.mk_some yY (Cw (ws:=xs) (ks:=[]) (Qr.Kp.sl2 HSL.out (fun h1 ad l c2 h9=>Au oQ (HLO.out h1 ad l c2 h9)) (((Bc (A9 w3 _)).trans (Bc hb4)).put8 (M:=w.heap.size+1) oQ _ _ _ _ _ _ _ _)) (fun h1 ad l c2 h9=>Au oQ (HLO.out h1 ad l c2 h9)) (EI _ _)) hP)):P:=h
theorem vhi (h:P:=by
 exact vz9):P:=h
theorem pt_g0 (toks r:List AM) (b o c:Nat) (f:Int) (w:Ab) (h:Qr.RT w toks b o c) (hr:r <:+ toks) (tk:UInt8) (tt:List UInt8) (tg:Bool) (ht:AT r=⟨tk,tt,tg⟩) (h1:tk=114) (ha:Ec ⟨tk,tt,tg⟩=false) (nk:UInt8) (nt:List UInt8) (ng:Bool) (hn:AT r.tail=⟨nk,nt,ng⟩) (hk:nk=42) (hg:ng=false) (hl:¬ (Bp tt).length=1) (hx:Bp tt≠[]) :
  Af A8 305 #[.slice (A3 ⟨b,o,A0⟩) (toks.length+1) c,.int .i64 ((toks.length - r.length:Nat):Int),.int .i64 f] w (Qr.RRes toks (A3 (.mk 3 f (Bp tt) 0 0 [],r.tail)) w):=by
 exact vhi
theorem pt_n1 (toks r:List AM) (b o c:Nat) (f:Int) (w:Ab) (h:Qr.RT w toks b o c) (hr:r <:+ toks) (tk:UInt8) (tt:List UInt8) (tg:Bool) (ht:AT r=⟨tk,tt,tg⟩) (h1:tk=114) (ha:Ec ⟨tk,tt,tg⟩=false) (nk:UInt8) (nt:List UInt8) (ng:Bool) (hn:AT r.tail=⟨nk,nt,ng⟩) (hk:(nk == 42)=false) (hl:(Bp tt).length=1) :
  Af A8 305 #[.slice (A3 ⟨b,o,A0⟩) (toks.length+1) c,.int .i64 ((toks.length - r.length:Nat):Int),.int .i64 f] w (Qr.RRes toks (A3 (.mk 1 f (Bp tt) 0 0 [],r.tail)) w):=by
 exact vee
theorem pt_n0 (toks r:List AM) (b o c:Nat) (f:Int) (w:Ab) (h:Qr.RT w toks b o c) (hr:r <:+ toks) (tk:UInt8) (tt:List UInt8) (tg:Bool) (ht:AT r=⟨tk,tt,tg⟩) (h1:tk=114) (ha:Ec ⟨tk,tt,tg⟩=false) (nk:UInt8) (nt:List UInt8) (ng:Bool) (hn:AT r.tail=⟨nk,nt,ng⟩) (hk:(nk == 42)=false) (hl:¬ (Bp tt).length=1) (hx:Bp tt≠[]) :
  Af A8 305 #[.slice (A3 ⟨b,o,A0⟩) (toks.length+1) c,.int .i64 ((toks.length - r.length:Nat):Int),.int .i64 f] w (Qr.RRes toks (A3 (.mk 3 f (Bp tt) 0 0 [],r.tail)) w):=by
 exact vhi
theorem r21_parseTerm_c (toks r:List AM) (b o c:Nat) (f:Int) (w:Ab) (h:Qr.RT w toks b o c) (hr:r <:+ toks) :
  Af A8 305 #[.slice (A3 ⟨b,o,A0⟩) (toks.length+1) c,.int .i64 ((toks.length - r.length:Nat):Int),.int .i64 f] w (Qr.RRes toks (D7 false f r) w):=by
 obtain⟨⟨tk,tt,tg⟩,ht⟩:=zgn;obtain⟨⟨nk,nt,ng⟩,hn⟩:=zku;have hw0:DM r=(tk == 113||(tk == 114&&!Qr.anyOp ⟨tk,tt,tg⟩)):=by unfold DM;rw[ht]
 have hgl:Ho 42 r=(tk == 114&&nk == 42&&ng):=by unfold Ho Qr.lk1;rw[ht,hn]
 have hP:D7 false f r=if DM r=false then A0 else if Bl tt=[] then A0
   else if Ho 42 r=true then (if 1<(Bl tt).length then A0 else A3 (.mk 2 f (Bp tt) 0 0 [],r.tail.tail))
   else if tk=114/\(Bl tt).length=1 then A3 (.mk 1 f (Bp tt) 0 0 [],r.tail)
   else A3 (.mk 3 f (Bp tt) 0 0 [],r.tail):=by
  unfold D7;rw[ht];simp only[Bool.false_and];rfl
 rw[hP,hw0,hgl];have hwl:=EP tt;have hwe:Bp tt=[]↔Bl tt=[]:=Qr.words_nil;by_cases h3:tk=113
 ·rw[if_neg qK];by_cases hx:Bl tt=[]
  ·rw[if_pos hx];exact pt_nil_q toks r b o c f w h hr tk tt tg ht h3 (hwe.2 hx)
  ·rw[if_neg hx,if_neg qK,if_neg qK];exact pt_phrase_q toks r b o c f w h hr tk tt tg ht h3 (fun e=>hx (hwe.1 e))
 ·by_cases h4:tk=114
  ·by_cases ha:Ec ⟨tk,tt,tg⟩=true
   ·rw[if_pos (by rw[ha,h4];simp)];exact pt_op toks r b o c f w h hr tk tt tg ht h4 ha
   ·have ha':Ec ⟨tk,tt,tg⟩=false:=by simpa using ha
    rw[if_neg (by rw[ha',h4];simp)];by_cases hx:Bl tt=[]
    ·rw[if_pos hx];exact pt_nil_r toks r b o c f w h hr tk tt tg ht h4 ha' (hwe.2 hx)
    ·have hx':Bp tt≠[]:=fun e=>hx (hwe.1 e)
     have hpos:1<=(Bl tt).length:=by
      cases hq:Bl tt with
      | nil=>exact absurd hq hx
      | cons a b=>simp
     rw[if_neg hx];by_cases hk:nk=42
     ·by_cases hg:ng=true
      ·rw[if_pos (by rw[h4,hk,hg];decide)];by_cases hl:1<(Bl tt).length
       ·rw[if_pos hl];exact pt_s0 toks r b o c f w h hr tk tt tg ht h4 ha' nk nt ng hn hk hg oQ hx'
       ·rw[if_neg hl];exact pt_s1 toks r b o c f w h hr tk tt tg ht h4 ha' nk nt ng hn hk hg oQ
      ·have hg':ng=false:=by simpa using hg
       rw[if_neg (by rw[hg'];simp)];by_cases hl:(Bl tt).length=1
       ·rw[if_pos ⟨h4,hl⟩];exact pt_g1 toks r b o c f w h hr tk tt tg ht h4 ha' nk nt ng hn hk hg' oQ
       ·rw[if_neg (fun e=>hl e.2)];exact pt_g0 toks r b o c f w h hr tk tt tg ht h4 ha' nk nt ng hn hk hg' oQ hx'
     ·have hk':(nk == 42)=false:=beq_eq_false_iff_ne.2 hk;rw[if_neg (by rw[hk'];simp)];by_cases hl:(Bl tt).length=1
      ·rw[if_pos ⟨h4,hl⟩];exact pt_n1 toks r b o c f w h hr tk tt tg ht h4 ha' nk nt ng hn hk' oQ
      ·rw[if_neg (fun e=>hl e.2)];exact pt_n0 toks r b o c f w h hr tk tt tg ht h4 ha' nk nt ng hn hk' oQ hx'
  ·rw[if_pos (by rw[E9,LL];exact⟨beq_eq_false_iff_ne.2 h3,.inl (beq_eq_false_iff_ne.2 h4)⟩)];exact pt_kind toks r b o c f w h hr tk tt tg ht h3 h4
namespace Qr
theorem cut_at {c:UInt8}{l:By}{k:Nat} (hk:k<=l.length) (hno:c ∉ l.take k) (he:k<l.length->l.getD k 0=c):Sp.cut c l=if k=l.length then A0 else A3 (l.take k,l.drop (k+1)):=by
 by_cases h:k=l.length
 ·rw[if_pos h];rw[h,At]at hno;exact Sp.cut_none.2 hno
 ·rw[if_neg h];have hlt:k<l.length:=oQ
  have e:l=l.take k++c::l.drop (k+1):=by
   conv=>lhs;rw[<- List.take_append_drop k l,List.drop_eq_getElem_cons hlt]
   have:=he hlt;rw[Bi,Ai hlt]at this;rw[show l[k]=c from this]
  conv=>lhs;rw[e]
  exact Sp.cut_append hno
theorem pYears_eq (r:List Tok):pYears false r=if (lk r).k≠114 then A0 else match Sp.cut 45 (lk r).t with
  | none=>A0
  | some (x,y)=>match yearN x,yearN y with
   | some m,A3 n=>A3 (.mk 4 0 [] m n [],r.tail)
   | _,_=>A0:=by
 unfold pYears;simp only[Bool.false_and];rfl
def yrs (x y:Option Nat) (r:List Tok):PR:=match x with
 | none=>A0
 | some m=>match y with
  | none=>A0
  | some n=>A3 (.mk 4 0 [] m n [],r)
theorem pYears_cut {r:List Tok}{x y:By} (hk:(lk r).k=114) (hc:Sp.cut 45 (lk r).t=A3 (x,y)):pYears false r=yrs (yearN x) (yearN y) r.tail:=by
 rw[pYears_eq,if_neg (by simp[hk]),hc];simp only;unfold yrs;cases yearN x with
 | none=>rfl
 | some m=>cases yearN y <;> rfl
end Qr
theorem yyp (h:P:=by
 go_wp2;exact Aw (v:=.agg #[.int .i64 0,.int .i64 0,.slice A0 0 0,.int .i64 0,.int .i64 0,.slice A0 0 0,.int .i64 0,.bool false]) uF rfl (by rw[HN.out];exact Qr.RRes.mk_none HP.out)):P:=h
theorem yzq (h:P:=by
 have hKb:(K != 1)=true:=by rw[bne_iff_ne];exact hK1
 clear hK1;exact yyp):P:=h
theorem r21_parseYears_c (toks r:List AM) (b o c:Nat) (w:Ab) (h:Qr.RT w toks b o c) (hr:r <:+ toks) (hk0:(AT r).k≠0) :
  Af A8 306 #[.slice (A3 ⟨b,o,A0⟩) (toks.length+1) c,.int .i64 ((toks.length - r.length:Nat):Int)] w (Qr.RRes toks (Ck false r) w):=by
 have hta:=Qr.tail_at hr hk0;have hleg:=zhv;obtain⟨t0,t1,t2⟩:=zfy;obtain⟨⟨tk,tt,tg⟩,ht⟩:=zgn;have hY:=Qr.pYears_eq r;have hYc:=fun x y=>Qr.pYears_cut (r:=r) (x:=x) (y:=y);have hK:Qr.kR tk=1↔tk=114:=by rw[ht]at hleg;exact (Qr.kR_eq hleg).2.1
 have htl:(Qr.tx ⟨tk,tt,tg⟩).length<=1000:=by
  have hm:=h.ok (AT r) (hr.subset (Qr.lk_mem hk0));rw[ht]at hm;unfold Qr.tx;split
  ·exact hm.2
  ·split <;> simp
 rw[ht]at t0 t1 t2 hY hk0 hYc;simp only at t0 t1 t2 hY hk0 hYc;have HYC:=J hYc;clear hYc;have hte:=zeo;have hrl:=hr.length_le;have hlen:=h.len;have hbl:=h.lt;have hcap:=h.cap;have hmax:=h.max;have hmx:Ap=9223372036854775807:=rfl;obtain⟨A,hA⟩:=zu;rw[hA]at t0 t1 t2 ⊢;have hA1:=zcb;have HTA:=J hta;have HA:=J hA;obtain⟨s,hs⟩:∃ s:ByteArray,(⟨(Qr.tx ⟨tk,tt,tg⟩).toArray⟩:ByteArray)=s:=⟨_,rfl⟩;have hsz:s.size<=1000:=by rw[<- hs,Tx.size_mk];exact htl
 have hst:tk=114->s.data.toList=tt:=fun e=>by
  rw[<- hs];unfold Qr.tx;rw[if_pos (.inr e)]
 obtain⟨K,hKK⟩:=zfh;rw[hs]at t1;rw[hKK]at t0 hK;have HY:=J hY;have HK:=J hK;have HST:=J hst;have HH:=zkq;clear hta hleg ht hY hK htl hs hst hKK hk0 h;have hLs:=Lib.size_eq s;have HLS:=J hLs;clear hLs;obtain⟨W,hW⟩:=zbo;have hB:=zi;have KR:=zn;have e0:=A4 hB t0;have e1:=A4 hB t1;obtain⟨z0,z1,z2,z3,z4,z5,z6,z7,zf⟩:=zdz;have hB0:Aa w.heap.size w (W.setCell ⟨w.heap.size,0,A0⟩ (.int .i64 0)):=hB.setCell (Ad _) _;clear hB0;have HP:=J (Qr.put8 hB (Ad _) (.int .i64 0) (.int .i64 0) (.slice A0 0 0) (.int .i64 0) (.int .i64 0) (.slice A0 0 0) (.int .i64 0) (.bool false));go_enter Tryz.func306,Tryz.ntmps306;go_wp2;clear hW;go_loop [6] (fun i=>∃ k:Nat,k<=s.size/\i=.int .i64 k/\Hid ((45:UInt8) ∉ s.data.toList.take k)) (fun i=>s.size - (intOf i).toNat)
 case atStart=>exact⟨0,Nat.zero_le _,rfl,J oZ⟩
 case round =>
  obtain⟨k,hk,rfl,hno⟩:=hrel
  have hround:∀ (hlt:k<s.size),s[k]'hlt≠45->(45:UInt8) ∉ s.data.toList.take (k+1):=fun hlt hne hm=>by
   have hlt':k<s.data.toList.length:=by rw[<- HLS.out];exact hlt
   rw[List.take_succ_eq_append_getElem hlt']at hm;rcases List.mem_append.1 hm with hm | hm
   ·exact hno.out hm
   ·rw[List.mem_singleton]at hm;exact hne hm.symm
  have hend:(k<s.size->s.data.toList.getD k 0=45)->Sp.cut 45 s.data.toList=if k=s.size then A0 else A3 (s.data.toList.take k,s.data.toList.drop (k+1)):=fun he=>by
   rw[HLS.out];exact Qr.cut_at (by rw[<- HLS.out];exact hk) hno.out (fun hlt=>he (by rw[HLS.out];exact hlt))
  have HR:=J hround;have HE:=J hend;clear hround hend;by_cases hlt:k<s.size
  ·by_cases h45:s[k]'hlt=45
   ·have hc:=HE.out (fun _=>by
     rw[Bi,Ai (by rw[<- HLS.out];exact hlt)];exact h45)
    rw[if_neg oQ]at hc;have hb45:((s[k]'hlt).toNat:Int)=45:=by rw[h45];rfl
    have HC:=J hc;clear hc h45;by_cases hK1:K=1
    ·have h114:=HK.out.1 hK1;subst hK1;have HS:=HST.out h114;by_cases hk4:4<k
     ·have HN:Hid (Ck false r=A0):=J (by
       rw[HY.out,if_neg (by simp[h114]),<- HS,HC.out];simp only;rw[show Di (s.data.toList.take k)=A0 by unfold Di;rw[if_pos zsi]])
      clear HS;exact yyp
     ·by_cases hl4:4<s.size - k - 1
      ·have HN:Hid (Ck false r=A0):=J (by
        rw[HY.out,if_neg (by simp[h114]),<- HS,HC.out];simp only;rw[show Di (s.data.toList.drop (k+1))=A0 by unfold Di;rw[if_pos OZ]];split <;> first | rfl | (rename_i h9;cases h9))
       clear HS;have hw1:((s.size:Int) - k) - 1 > 4:=oQ;exact yyp
      ·have hw1:((s.size:Int) - k) - 1<=4:=oQ;have hw2:(k:Int)<=4:=oQ;have hw3:((k:Int) == (s.size:Int))=false:=beq_eq_false_iff_ne.2 oQ;obtain⟨x,hx⟩:∃ x,Nm.num (s.data.toList.take k)=x:=⟨_,rfl⟩;obtain⟨y,hy⟩:∃ y,Nm.num (s.data.toList.drop (k+1))=y:=⟨_,rfl⟩;have hX:Di (s.data.toList.take k)=x:=by unfold Di;rw[if_neg zsi];exact hx
       have hYY:Di (s.data.toList.drop (k+1))=y:=by unfold Di;rw[if_neg OZ];exact hy
       have HN:Hid (Ck false r=Qr.yrs x y r.tail):=J (by
        rw[HYC.out _ _ h114 (by rw[<- HS];exact HC.out),hX,hYY])
       have n1:Hid (∀ w,Af A8 309 #[.string (s.extract 0 k)] w fun e w'=>e=.returned (.tuple #[.int .i64 ((x.getD 0:Nat):Int),.bool x.isSome])/\Aa w.heap.size w w'):=J (fun w=>by
        have:=r11_Number_c (s.extract 0 k) w;rw[DV,show (s.data.toList.drop 0).take (k - 0)=s.data.toList.take k by simp,hx]at this;exact this)
       have n2:Hid (∀ w,Af A8 309 #[.string (s.extract (k+1) s.size)] w fun e w'=>e=.returned (.tuple #[.int .i64 ((y.getD 0:Nat):Int),.bool y.isSome])/\Aa w.heap.size w w'):=J (fun w=>by
        have:=r11_Number_c (s.extract (k+1) s.size) w;rw[DV,show (s.data.toList.drop (k+1)).take (s.size - (k+1))=s.data.toList.drop (k+1) by rw[List.take_of_length_le OZ],hy]at this;exact this)
       clear HS hx hy hX hYY;have HN2:=HN;clear HN;cases x with
       | none =>
        have HN:=zmh
        go_wp2_with (first
         |(go_at_call 309;(with_reducible refine (n2.out w2).mono ?_);rintro e w3 ⟨rfl,hb3⟩;replace KR:=J (A6 KR.out hb3);obtain⟨z0,z1,z2,z3,z4,z5,z6,z7,zf⟩:=zdz)
         |(go_at_call 309;(with_reducible refine (n1.out _).mono ?_);rintro e w2 ⟨rfl,hb2⟩;replace KR:=J (A6 KR.out hb2)))
        exact Aw (v:=.agg #[.int .i64 4,.int .i64 0,.slice A0 0 0,.int .i64 0,.int .i64 ((y.getD 0:Nat):Int),.slice A0 0 0,.int .i64 ((A:Int)+1),.bool false]) uF rfl YZ
       | some m =>
        cases y with
        | none =>
         have HN:=zmh
         go_wp2_with (first
          |(go_at_call 309;(with_reducible refine (n2.out w2).mono ?_);rintro e w3 ⟨rfl,hb3⟩;replace KR:=J (A6 KR.out hb3);obtain⟨z0,z1,z2,z3,z4,z5,z6,z7,zf⟩:=zdz)
          |(go_at_call 309;(with_reducible refine (n1.out _).mono ?_);rintro e w2 ⟨rfl,hb2⟩;replace KR:=J (A6 KR.out hb2)))
         exact Aw (v:=.agg #[.int .i64 4,.int .i64 0,.slice A0 0 0,.int .i64 (m:Int),.int .i64 0,.slice A0 0 0,.int .i64 ((A:Int)+1),.bool false]) uF rfl YZ
        | some n =>
         have HN:Hid (Ck false r=A3 (.mk 4 0 [] m n [],r.tail)):=J (by rw[HN2.out];rfl)
         go_wp2_with (first
          |(go_at_call 309;(with_reducible refine (n2.out w2).mono ?_);rintro e w3 ⟨rfl,hb3⟩;replace KR:=J (A6 KR.out hb3);obtain⟨z0,z1,z2,z3,z4,z5,z6,z7,zf⟩:=zdz)
          |(go_at_call 309;(with_reducible refine (n1.out _).mono ?_);rintro e w2 ⟨rfl,hb2⟩;replace KR:=J (A6 KR.out hb2)))
         exact Aw (v:=.agg #[.int .i64 4,.int .i64 0,.slice A0 0 0,.int .i64 (m:Int),.int .i64 (n:Int),.slice A0 0 0,.int .i64 ((A:Int)+1),.bool true]) uF rfl (by rw[HN.out];exact Qr.RRes.mk_some yY (Cw (ws:=[]) (ks:=[]) (.inl ⟨rfl,_,_,rfl⟩) (fun h=>absurd rfl h) (EI _ _)) (Qr.put8 (hB.trans ((Ac hb2 hb3).mono hB.size)) (Ad _) _ _ _ _ _ _ _ _))
    ·have HN:Hid (Ck false r=A0):=J (by rw[HY.out,if_pos (fun e=>hK1 (HK.out.2 e))]);exact yzq
   ·have hb45:((s[k]'hlt).toNat:Int)≠45:=fun e=>h45 (by
     have e2:(s[k]'hlt).toNat=45:=oQ;exact UInt8.toNat_inj.1 e2)
    have hbb:(((s[k]'hlt).toNat:Int) != 45)=true:=by rw[bne_iff_ne];exact hb45
    have H45:=J h45;clear h45 hb45;go_wp2;go_round
    case rel=>exact⟨k+1,hlt,by go_num,J (HR.out hlt H45.out)⟩
    case measure=>simp[intOf];omega
  ·obtain rfl:k=s.size:=oQ;have hc:=HE.out (fun h9=>oQ);rw[if_pos rfl]at hc;have HC:=J hc;clear hc
   have HN:Hid (Ck false r=A0):=J (by
    rw[HY.out];by_cases h114:tk=114
    ·rw[if_neg (by simp[h114]),<- HST.out h114,HC.out]
    ·rw[if_pos h114])
   by_cases hK1:K=1
   ·subst hK1;exact yyp
   ·exact yzq
namespace Qr
theorem RRes.vals {toks:List Tok}{x:PR}{w w':Ab}{e:J8} (h:RRes toks x w e w'):∃ o f a b sa sn sc ka kn kc n z,e=.returned (.agg #[.int .i64 o,.int .i64 f,.slice sa sn sc,.int .i64 a,.int .i64 b,.slice ka kn kc,.int .i64 n,.bool z])/\Aa w.heap.size w w':=by
 cases x with
 | none =>
  obtain⟨o,f,a,b,sa,sn,sc,ka,kn,kc,n,h1,h2⟩:=h.bad;exact⟨o,f,a,b,sa,sn,sc,ka,kn,kc,n,false,h1,h2⟩
 | some p =>
  obtain⟨q,r⟩:=p;obtain⟨o,f,a,b,sa,sn,sc,ka,kn,kc,h1,_,h2⟩:=h.get;exact⟨o,f,a,b,sa,sn,sc,ka,kn,kc,_,true,h1,h2⟩
theorem RRes.carry {toks:List Tok}{x:PR}{w w1 w2 w9:Ab}{e:J8} (h:RRes toks x w1 e w2) (hw:w.heap.size<=w1.heap.size) (hB:Aa w.heap.size w w9) (hK:Kp w1.heap.size w2 w9):RRes toks x w e w9:=by
 cases x with
 | none =>
  obtain⟨t,n,h1,_⟩:=h;exact⟨t,n,h1,hB⟩
 | some p =>
  obtain⟨q,r⟩:=p;obtain⟨t,h1,h2,_⟩:=h;exact⟨t,h1,(h2.kp hK).mono hw,hB⟩
theorem pYears_no {r:List Tok} (h:word0 r=false):pYears false r=A0:=by
 rw[pYears_eq];by_cases hk:(lk r).k=114
 ·rw[if_neg (by simp[hk])];unfold word0 anyOp at h;rw[hk]at h;simp only[E9,LL]at h
  have h2:((lk r).t=orB\/(lk r).t=andB\/(lk r).t=notB):=by
   rcases h.2 with h | h
   ·exact absurd h oX
   ·have h3:¬ (lk r).t=orB->¬ (lk r).t=andB->(lk r).t=notB:=by simpa [or_assoc] using h
    by_cases a1:(lk r).t=orB
    ·exact .inl a1
    ·by_cases a2:(lk r).t=andB
     ·exact .inr (.inl a2)
     ·exact .inr (.inr (h3 a1 a2))
  have e:Sp.cut 45 (lk r).t=A0:=by rcases h2 with h2 | h2 | h2 <;> rw[h2] <;> decide
  rw[e]
 ·rw[if_pos hk]
theorem pTerm_no {r:List Tok}{f:Int} (h:word0 r=false):pTerm false f r=A0:=by unfold pTerm;rw[if_pos h]
end Qr
theorem u8z (h:P:=by
 go_enter FH,Fe
 go_wp2_with (first
  |(go_at_call 124;(with_reducible refine (HSUB.out _ (HH.out.below k2)).mono ?_);rintro e w3 hh;obtain⟨po,pf,pa,pb,psa,psn,psc,pka,pkn,pkc,pn,rfl,hb3⟩:=hh.bad;clear hh;have k3:=zjh;replace KR:=J (A6 KR.out hb3);have ew3:=zct;have k4:=Ac k3 ew3;replace KR:=J (A6 KR.out ew3);obtain⟨z0,z1,z2,z3,z4,z5,z6,z7,zf⟩:=zdz)
  |(go_at_call 266;(with_reducible refine (hst.out _).mono ?_);rintro e w3 ⟨rfl,hb3⟩;have k3:=zjh;replace KR:=J (A6 KR.out hb3);have t0_3:=znw;have t1_3:=znx;have t2_3:=zny;obtain⟨z0,z1,z2,z3,z4,z5,z6,z7,zf⟩:=zdz)
  |(go_at_call 292;(with_reducible refine (his.out _).mono ?_);rintro e w2 ⟨rfl,hb2⟩;have k2:=Ac hB hb2;replace KR:=J (A6 KR.out hb2);have t0_2:=znz;have t1_2:=zoa;have t2_2:=zob))
 first
  |exact Aw (v:=.agg #[.int .i64 0,.int .i64 0,.slice A0 0 0,.int .i64 0,.int .i64 0,.slice A0 0 0,.int .i64 0,.bool false]) aG rfl (Qr.RRes.mk_none (Qr.put8 k4 (Ad _) _ _ _ _ _ _ _ _))
  |exact Aw (v:=.agg #[.int .i64 0,.int .i64 0,.slice A0 0 0,.int .i64 0,.int .i64 0,.slice A0 0 0,.int .i64 0,.bool false]) aG rfl (Qr.RRes.mk_none (Qr.put8 k3 (Ad _) _ _ _ _ _ _ _ _))):P:=h
theorem yz8 (h:P:=by
 clear t0 t1 t2 h;obtain⟨W,hW⟩:=zbo;have hB:=zi;have hs1:=zv;have HS1:=J hs1;clear hs1;have KR:=zn;have t0_1:=zoc;have t1_1:=zod;have t2_1:=zoe;exact u8z):P:=h
theorem pp_par_none (toks r:List AM) (b o c n:Nat) (w:Ab) (h:Qr.RT w toks b o c) (hr:r <:+ toks) (tk:UInt8) (tt:List UInt8) (tg:Bool) (ht:AT r=⟨tk,tt,tg⟩) (hSub:∀ (r:List AM) (w:Ab),8*r.length+7<=n->r <:+ toks->Qr.RT w toks b o c->Af A8 124 #[.slice (A3 ⟨b,o,A0⟩) (toks.length+1) c,.int .i64 ((toks.length - r.length:Nat):Int)] w (Qr.RRes toks (DN false n r) w)) (hn:8*r.length+4<=n+1) (hk:tk=40) (hx:DN false n r.tail=A0) :
  Af A8 291 #[.slice (A3 ⟨b,o,A0⟩) (toks.length+1) c,.int .i64 ((toks.length - r.length:Nat):Int)] w (Qr.RRes toks (A0) w):=by
 have hleg:=zhv;rw[ht]at hleg;obtain⟨t0,t1,t2⟩:=zfy;rw[ht]at t0 t1 t2;simp only at t0 t1 t2;have hrl:=hr.length_le;have hlen:=h.len;have hbl:=h.lt;have hcap:=h.cap;have hmax:=h.max;have hmx:Ap=9223372036854775807:=rfl;have his:=zav;have hst:=zbq;simp only at his hst;have hta:=zon;have hte:=zki;have hsub:=zid;rw[hta,hx,show ((toks.length - r.length+1:Nat):Int)=((toks.length - r.length:Nat):Int)+1 by omega]at hsub;rw[show (tk == 40)=true by rw[hk];rfl]at his;obtain⟨A,hA⟩:=zu;rw[hA]at t0 t1 t2 hsub ⊢;have HA:=zfe;have hA1:=zcb;obtain⟨X,hX⟩:=zaq;obtain⟨K,hK⟩:=zfh;rw[hX]at t1 his hst;rw[hK]at t0 his hst;have HH:=zkq;have T0:=J t0;have T1:=J t1;have T2:=J t2;have HSUB:=J hsub;clear hX hK ht hk hx hleg hta hsub hA hSub hst;exact yz8
theorem y8x (h:P:=by
 exact Aw (v:=.agg #[.int .i64 po,.int .i64 pf,.slice psa psn psc,.int .i64 pa,.int .i64 pb,.slice pka pkn pkc,.int .i64 pn,.bool pz]) aG rfl (HHR.out.carry oQ (Qr.put8 k5 (Ad _) _ _ _ _ _ _ _ _) ((Dn _ _).put8 oQ _ _ _ _ _ _ _ _))):P:=h
theorem ufh (h:P:=by
 go_enter FH,Fe
 go_wp2_with (first
  |(go_at_call 305;(with_reducible refine (HTM.out w4 (HH.out.below k4)).mono ?_);rintro e w5 hh;obtain⟨po,pf,pa,pb,psa,psn,psc,pka,pkn,pkc,pn,pz,rfl,hb5⟩:=hh.vals;have HHR:=zpp;clear hh;have k5:=zot;replace KR:=J (A6 KR.out hb5);obtain⟨z0,z1,z2,z3,z4,z5,z6,z7,zf⟩:=zdz;have hz4:=hb4.size)
  |(go_at_call 292;(with_reducible refine (hisn.out w3).mono ?_);rintro e w4 ⟨rfl,hb4⟩;have k4:=Ac k3 hb4;replace KR:=J (A6 KR.out hb4);have t0_4:=zqy;have t1_4:=zqz;have t2_4:=zra;have n0_4:=zrb;have n1_4:=zrc;have n2_4:=zrd)
  |(go_at_call 305;(with_reducible refine (HTM.out w3 (HH.out.below k3)).mono ?_);rintro e w4 hh;obtain⟨po,pf,pa,pb,psa,psn,psc,pka,pkn,pkc,pn,pz,rfl,hb4⟩:=hh.vals;have HHR:=zpp;clear hh;have k4:=Ac k3 hb4;replace KR:=J (A6 KR.out hb4);obtain⟨z0,z1,z2,z3,z4,z5,z6,z7,zf⟩:=zdz;have hz3:=hb3.size)
  |(go_at_call 266;(with_reducible refine (hst.out _).mono ?_);rintro e w3 ⟨rfl,hb3⟩;have k3:=zjh;replace KR:=J (A6 KR.out hb3);have t0_3:=znw;have t1_3:=znx;have t2_3:=zny;have n0_3:=zre;have n1_3:=zrf;have n2_3:=zrg)
  |(go_at_call 292;(with_reducible refine (hisc.out _).mono ?_);rintro e w5 ⟨rfl,hb5⟩;have k5:=zot;replace KR:=J (A6 KR.out hb5);replace KP:=J (A6 KP.out hb5);obtain⟨z0,z1,z2,z3,z4,z5,z6,z7,zf⟩:=zdz;obtain⟨p0,p1,p2,p3,p4,p5,p6,p7,-⟩:=Tx.c8 KP.out)
  |(go_at_call 124;(with_reducible refine (HSUB.out _ (HH.out.below k2)).mono ?_);rintro e w3 hh;obtain⟨po,pf,pa,pb,psa,psn,psc,pka,pkn,pkc,rfl,hq3,hb3⟩:=hh.get;clear hh;rw[HA2.out];have k3:=zjh;replace KR:=J (A6 KR.out hb3);have ew3:=zay;have k4:=Ac k3 ew3;replace KR:=J (A6 KR.out ew3);have KP:=zqx;have c0_4:=A4 k4 C0.out;have c1_4:=A4 k4 C1.out;have c2_4:=A4 k4 C2.out;have HQ3:=J hq3;clear hq3;have hs2:=hb2.size)
  |(go_at_call 292;(with_reducible refine (his.out _).mono ?_);rintro e w2 ⟨rfl,hb2⟩;have k2:=Ac hB hb2;replace KR:=J (A6 KR.out hb2);have t0_2:=znz;have t1_2:=zoa;have t2_2:=zob))
 first
  |exact Aw (v:=.agg #[.int .i64 po,.int .i64 pf,.slice psa psn psc,.int .i64 pa,.int .i64 pb,.slice pka pkn pkc,.int .i64 ((A2:Int)+1),.bool true]) aG rfl (Qr.RRes.mk_some (by rw[HTC.out,HA2.out];omega) ((HQ3.out.kp (((Bc (A9 w3 _)).trans (Bc hb5)).put8 yG _ _ _ _ _ _ _ _)).mono yG) (Qr.put8 k5 (Ad _) _ _ _ _ _ _ _ _))
  |have hsz:w.heap.size<w4.heap.size:=by have:=HS1.out;have:=hb2.size;have:=hb3.size;have:=hb4.size;omega
   exact y8x
  |exact Aw (v:=.agg #[.int .i64 0,.int .i64 0,.slice A0 0 0,.int .i64 0,.int .i64 0,.slice A0 0 0,.int .i64 0,.bool false]) aG rfl (Qr.RRes.mk_none (Qr.put8 k5 (Ad _) _ _ _ _ _ _ _ _))
  |have hsz:w.heap.size<w3.heap.size:=by have:=HS1.out;have:=hb2.size;have:=hb3.size;omega
   exact Aw (v:=.agg #[.int .i64 po,.int .i64 pf,.slice psa psn psc,.int .i64 pa,.int .i64 pb,.slice pka pkn pkc,.int .i64 pn,.bool pz]) aG rfl (HHR.out.carry oQ (Qr.put8 k4 (Ad _) _ _ _ _ _ _ _ _) ((Dn _ _).put8 oQ _ _ _ _ _ _ _ _))):P:=h
theorem yjr (h:P:=by
 clear t0 t1 t2 h;obtain⟨W,hW⟩:=zbo;have hB:=zi;have hs1:=zv;have HS1:=J hs1;clear hs1;have KR:=zn;have t0_1:=zoc;have t1_1:=zod;have t2_1:=zoe;exact ufh):P:=h
theorem yym (h:P:=by
 clear c0 c1 c2 hCX hCK hCG hc hlegc hsuf hA2;rw[show (tk == 40)=true by rw[hk];rfl]at his;obtain⟨A,hA⟩:=zu;rw[hA]at t0 t1 t2 hsub ⊢;have HA:=zfe;have hA1:=zcb;obtain⟨X,hX⟩:=zaq;obtain⟨K,hK⟩:=zfh;rw[hX]at t1 his hst;rw[hK]at t0 his hst;have HH:=zkq;have T0:=J t0;have T1:=J t1;have T2:=J t2;have HSUB:=J hsub;clear hX hK ht hk hx hleg hta hsub hA hSub hst;exact yjr):P:=h
theorem pp_par_open (toks r:List AM) (b o c n:Nat) (w:Ab) (h:Qr.RT w toks b o c) (hr:r <:+ toks) (tk:UInt8) (tt:List UInt8) (tg:Bool) (ht:AT r=⟨tk,tt,tg⟩) (hSub:∀ (r:List AM) (w:Ab),8*r.length+7<=n->r <:+ toks->Qr.RT w toks b o c->Af A8 124 #[.slice (A3 ⟨b,o,A0⟩) (toks.length+1) c,.int .i64 ((toks.length - r.length:Nat):Int)] w (Qr.RRes toks (DN false n r) w)) (hn:8*r.length+4<=n+1) (hk:tk=40) (q:Cq) (r':List AM) (hx:DN false n r.tail=A3 (q,r')) (hc:(AT r').k≠41) :
  Af A8 291 #[.slice (A3 ⟨b,o,A0⟩) (toks.length+1) c,.int .i64 ((toks.length - r.length:Nat):Int)] w (Qr.RRes toks (A0) w):=by
 have hleg:=zhv;rw[ht]at hleg;obtain⟨t0,t1,t2⟩:=zfy;rw[ht]at t0 t1 t2;simp only at t0 t1 t2;have hrl:=hr.length_le;have hlen:=h.len;have hbl:=h.lt;have hcap:=h.cap;have hmax:=h.max;have hmx:Ap=9223372036854775807:=rfl;have his:=zav;have hst:=zbq;simp only at his hst;have hta:=zon;have hte:=zki;have hsub:=zid;rw[hta,hx,show ((toks.length - r.length+1:Nat):Int)=((toks.length - r.length:Nat):Int)+1 by omega]at hsub;have hsuf:=zll;have hlegc:=h.leg hsuf;have hisc:=zmb;have hcl:=hsuf.length_le;obtain⟨A2,hA2⟩:=zmt;obtain⟨c0,c1,c2⟩:=h.at_ r' hsuf;rw[hA2]at c0 c1 c2;obtain⟨CX,hCX⟩:=zgf;obtain⟨CK,hCK⟩:=zpi;obtain⟨CG,hCG⟩:=zrq;rw[hCX,hCK,hCG]at hisc;rw[hCX]at c1;rw[hCK]at c0;rw[hCG]at c2;have hA2l:=zpv;have C0:=J c0;have C1:=J c1;have C2:=J c2;have HA2:=zla;rw[show ((AT r').k == 41)=false from beq_eq_false_iff_ne.2 hc]at hisc;exact yym
theorem pp_par_ok (toks r:List AM) (b o c n:Nat) (w:Ab) (h:Qr.RT w toks b o c) (hr:r <:+ toks) (tk:UInt8) (tt:List UInt8) (tg:Bool) (ht:AT r=⟨tk,tt,tg⟩) (hSub:∀ (r:List AM) (w:Ab),8*r.length+7<=n->r <:+ toks->Qr.RT w toks b o c->Af A8 124 #[.slice (A3 ⟨b,o,A0⟩) (toks.length+1) c,.int .i64 ((toks.length - r.length:Nat):Int)] w (Qr.RRes toks (DN false n r) w)) (hn:8*r.length+4<=n+1) (hk:tk=40) (q:Cq) (r':List AM) (hx:DN false n r.tail=A3 (q,r')) (hc:(AT r').k=41) :
  Af A8 291 #[.slice (A3 ⟨b,o,A0⟩) (toks.length+1) c,.int .i64 ((toks.length - r.length:Nat):Int)] w (Qr.RRes toks (A3 (q,r'.tail)) w):=by
 have hleg:=zhv;rw[ht]at hleg;obtain⟨t0,t1,t2⟩:=zfy;rw[ht]at t0 t1 t2;simp only at t0 t1 t2;have hrl:=hr.length_le;have hlen:=h.len;have hbl:=h.lt;have hcap:=h.cap;have hmax:=h.max;have hmx:Ap=9223372036854775807:=rfl;have his:=zav;have hst:=zbq;simp only at his hst;have hta:=zon;have hte:=zki;have hsub:=zid;rw[hta,hx,show ((toks.length - r.length+1:Nat):Int)=((toks.length - r.length:Nat):Int)+1 by omega]at hsub;have hsuf:=zll;have hlegc:=h.leg hsuf;have hisc:=zmb;have hcl:=hsuf.length_le;obtain⟨A2,hA2⟩:=zmt;obtain⟨c0,c1,c2⟩:=h.at_ r' hsuf;rw[hA2]at c0 c1 c2;obtain⟨CX,hCX⟩:=zgf;obtain⟨CK,hCK⟩:=zpi;obtain⟨CG,hCG⟩:=zrq;rw[hCX,hCK,hCG]at hisc;rw[hCX]at c1;rw[hCK]at c0;rw[hCG]at c2;have hA2l:=zpv;have C0:=J c0;have C1:=J c1;have C2:=J c2;have HA2:=zla;rw[show ((AT r').k == 41)=true by rw[hc];rfl]at hisc;have htc:=Qr.tail_at hsuf (by rw[hc];simp);have HTC:=J htc;clear htc;exact yym
theorem pp_nobeg (toks r:List AM) (b o c:Nat) (w:Ab) (h:Qr.RT w toks b o c) (hr:r <:+ toks) (tk:UInt8) (tt:List UInt8) (tg:Bool) (ht:AT r=⟨tk,tt,tg⟩) (hk:tk≠40) (hw:Qr.beg ⟨tk,tt,tg⟩=false) :
  Af A8 291 #[.slice (A3 ⟨b,o,A0⟩) (toks.length+1) c,.int .i64 ((toks.length - r.length:Nat):Int)] w (Qr.RRes toks (A0) w):=by
 have hleg:=zhv;rw[ht]at hleg;obtain⟨t0,t1,t2⟩:=zfy;rw[ht]at t0 t1 t2;simp only at t0 t1 t2;have hrl:=hr.length_le;have hlen:=h.len;have hbl:=h.lt;have hcap:=h.cap;have hmax:=h.max;have hmx:Ap=9223372036854775807:=rfl;have his:=zav;have hst:=zbq;simp only at his hst;rw[show (tk == 40)=false from beq_eq_false_iff_ne.2 hk]at his;rw[hw]at hst;obtain⟨A,hA⟩:=zu;rw[hA]at t0 t1 t2 ⊢;have HA:=zfe;have hA1:=zcb;obtain⟨X,hX⟩:=zaq;obtain⟨K,hK⟩:=zfh;rw[hX]at t1 his hst;rw[hK]at t0 his hst;have HH:=zkq;have T0:=J t0;have T1:=J t1;have T2:=J t2;clear hX hK ht hk hw hleg hA;exact yz8
theorem v88 (h:P:=by
 have hleg:=zhv;rw[ht]at hleg;obtain⟨t0,t1,t2⟩:=zfy;rw[ht]at t0 t1 t2;simp only at t0 t1 t2;have hrl:=hr.length_le;have hlen:=h.len;have hbl:=h.lt;have hcap:=h.cap;have hmax:=h.max;have hmx:Ap=9223372036854775807:=rfl;have his:=zav;have hst:=zbq;simp only at his hst;have hk0:=zrh;obtain⟨⟨nk,nt,ng⟩,hnx⟩:=zku;have hta:=zji;have hlegn:=zeu;rw[hnx]at hlegn;obtain⟨n0,n1,n2⟩:=zco;rw[hnx,hta]at n0 n1 n2;simp only at n0 n1 n2;have hsf:=zdf;have hte:=zeo;have hisn:=zem;simp only at hisn;have hterm:=fun w h=>r21_parseTerm_c toks r b o c 0 w h hr;rw[show (tk == 40)=false by rw[h2];rfl]at his
 first
  |guard_hyp h5;rw[show Qr.beg ⟨tk,tt,tg⟩=true by rw[h2]at hw ⊢;unfold Qr.beg;rw[hw];rfl]at hst
   first
    |guard_hyp h6;rw[hnx]at h5 h6
     simp only at h5 h6;rw[show (nk == 58)=true by rw[h5];rfl]at hisn;obtain⟨A,hA⟩:=zu;rw[hA]at t0 t1 t2 n0 n1 n2 hterm ⊢;have HA:=zfe;have hA1:=zcb;obtain⟨X,hX⟩:=zaq;obtain⟨K,hK⟩:=zfh;rw[hX]at t1 his hst;rw[hK]at t0 his hst;have HH:=zkq;have T0:=J t0;have T1:=J t1;have T2:=J t2;have hAl:=znc;obtain⟨NX,hNX⟩:=zcg;obtain⟨NK,hNK⟩:=zeg;rw[hNX]at n1 hisn;rw[hNK]at n0 hisn;have N0:=J n0;have N1:=J n1;have N2:=J n2;have hKl:=zqo;subst hKl;subst h6;exact y0u
    |rw[hnx]at h5
     rw[show (nk == 58)=false from beq_eq_false_iff_ne.2 h5]at hisn;obtain⟨A,hA⟩:=zu;rw[hA]at t0 t1 t2 n0 n1 n2 hterm ⊢;have HA:=zfe;have hA1:=zcb;obtain⟨X,hX⟩:=zaq;obtain⟨K,hK⟩:=zfh;rw[hX]at t1 his hst;rw[hK]at t0 his hst;have HH:=zkq;have T0:=J t0;have T1:=J t1;have T2:=J t2;have hAl:=znc;obtain⟨NX,hNX⟩:=zcg;obtain⟨NK,hNK⟩:=zeg;rw[hNX]at n1 hisn;rw[hNK]at n0 hisn;have N0:=J n0;have N1:=J n1;have N2:=J n2;have hKl:=zqo;subst hKl;exact y0u
  |rw[show Qr.beg ⟨tk,tt,tg⟩=true by unfold Qr.beg;rw[h2];rfl]at hst
   obtain⟨A,hA⟩:=zu;rw[hA]at t0 t1 t2 n0 n1 n2 hterm ⊢;have HA:=zfe;have hA1:=zcb;obtain⟨X,hX⟩:=zaq;obtain⟨K,hK⟩:=zfh;rw[hX]at t1 his hst;rw[hK]at t0 his hst;have HH:=zkq;have T0:=J t0;have T1:=J t1;have T2:=J t2;have hAl:=znc;obtain⟨NX,hNX⟩:=zcg;obtain⟨NK,hNK⟩:=zeg;rw[hNX]at n1 hisn;rw[hNK]at n0 hisn;have N0:=J n0;have N1:=J n1;have N2:=J n2;have hKl:K=2:=by rw[<- hK,h2];rfl
   subst hKl;obtain⟨PT,hPT⟩:∃ x,D7 false 0 r=x:=⟨_,rfl⟩;rw[hPT]at hterm ⊢;have HTM:=J hterm;clear hterm hPT hX hK hNX hNK ht hnx h2 hleg hlegn hA hta hk0 n0 n1 n2;exact yjr):P:=h
theorem pp_term_q (toks r:List AM) (b o c:Nat) (w:Ab) (h:Qr.RT w toks b o c) (hr:r <:+ toks) (tk:UInt8) (tt:List UInt8) (tg:Bool) (ht:AT r=⟨tk,tt,tg⟩) (h2:tk=113) :
  Af A8 291 #[.slice (A3 ⟨b,o,A0⟩) (toks.length+1) c,.int .i64 ((toks.length - r.length:Nat):Int)] w (Qr.RRes toks (D7 false 0 r) w):=by
 exact v88
theorem y0u (h:P:=by
 obtain⟨PT,hPT⟩:∃ x,D7 false 0 r=x:=⟨_,rfl⟩;rw[hPT]at hterm ⊢;have HTM:=J hterm;clear hterm hPT hX hK hNX hNK ht hnx h2 hleg hlegn hA hta hk0 n0 n1 n2 hw h5;exact yjr):P:=h
theorem vxz (h:P:=by
 exact v88):P:=h
theorem pp_term_n (toks r:List AM) (b o c:Nat) (w:Ab) (h:Qr.RT w toks b o c) (hr:r <:+ toks) (tk:UInt8) (tt:List UInt8) (tg:Bool) (ht:AT r=⟨tk,tt,tg⟩) (h2:tk=114) (hw:Ec ⟨tk,tt,tg⟩=false) (h5:(AT r.tail).k≠58) :
  Af A8 291 #[.slice (A3 ⟨b,o,A0⟩) (toks.length+1) c,.int .i64 ((toks.length - r.length:Nat):Int)] w (Qr.RRes toks (D7 false 0 r) w):=by
 exact vxz
theorem pp_term_g (toks r:List AM) (b o c:Nat) (w:Ab) (h:Qr.RT w toks b o c) (hr:r <:+ toks) (tk:UInt8) (tt:List UInt8) (tg:Bool) (ht:AT r=⟨tk,tt,tg⟩) (h2:tk=114) (hw:Ec ⟨tk,tt,tg⟩=false) (h5:(AT r.tail).k=58) (h6:(AT r.tail).g=false) :
  Af A8 291 #[.slice (A3 ⟨b,o,A0⟩) (toks.length+1) c,.int .i64 ((toks.length - r.length:Nat):Int)] w (Qr.RRes toks (D7 false 0 r) w):=by
 exact vxz
theorem vqm (h:P:=by
 have hleg:=zhv;rw[ht]at hleg;obtain⟨t0,t1,t2⟩:=zfy;rw[ht]at t0 t1 t2;simp only at t0 t1 t2;have hrl:=hr.length_le;have hlen:=h.len;have hbl:=h.lt;have hcap:=h.cap;have hmax:=h.max;have hmx:Ap=9223372036854775807:=rfl;have his:=zav;have hst:=zbq;simp only at his hst;have hk0:=zrh;obtain⟨⟨nk,nt,ng⟩,hnx⟩:=zku;have hta:=zji;have hlegn:=zeu;rw[hnx]at hlegn;obtain⟨n0,n1,n2⟩:=zco;rw[hnx,hta]at n0 n1 n2;simp only at n0 n1 n2;have hsf:=zdf;have hte:=zeo;have hisn:=zem;simp only at hisn;have hta2:=zjz;have hsuf2:=zqp;obtain⟨m0,m1,m2⟩:=h.at_ r.tail.tail hsuf2;rw[h7,hta2,hta]at m2;rw[hta2,hta]at m0 m1;have hsl2:=hsuf2.length_le;have hte2:=zjp;rw[show (tk == 40)=false by rw[h2];rfl]at his;rw[show Qr.beg ⟨tk,tt,tg⟩=true by rw[h2]at hw ⊢;unfold Qr.beg;rw[hw];rfl]at hst;rw[hnx]at h5 h6;simp only at h5 h6;rw[show (nk == 58)=true by rw[h5];rfl]at hisn;have hxt:=zgr;obtain⟨A,hA⟩:=zu;rw[hA]at t0 t1 t2 n0 n1 n2 m0 m1 m2 ⊢;have HA:=zfe;have hA1:=zcb;obtain⟨X,hX⟩:=zaq;obtain⟨K,hK⟩:=zfh;rw[hX]at t1 his hst;rw[hK]at t0 his hst;have HH:=zkq;have T0:=J t0;have T1:=J t1;have T2:=J t2;have hAl:=znc;obtain⟨NX,hNX⟩:=zcg;obtain⟨NK,hNK⟩:=zeg;rw[hNX]at n1 hisn;rw[hNK]at n0 hisn;have N0:=J n0;have N1:=J n1;have N2:=J n2;have hAl2:A+1<toks.length:=oQ;have hKl:=zqo;subst hKl;subst h6;rw[hX]at hxt
 first
  |guard_hyp h8;have hyb:(X.toList == [121,101,97,114])=false:=by rw[hxt,AG];simpa using h8
   have hfo:=J (fun w=>r21_fieldOf_c X w);rw[show Qr.fldN X.data.toList=-1 by rw[hxt];unfold Qr.fldN;rw[show (⟨tt.toArray⟩:ByteArray).data.toList=tt from rfl,h9]]at hfo;have M2:=J m2;clear hX hxt hK hNX hNK ht hnx h2 hleg hlegn hA hta hta2 hk0 n0 n1 n2 m0 m1 m2 h7 hw h5 h8 h9;exact ytw
  |have M2:=J m2
   clear hX hxt hK hNX hNK ht hnx h2 hleg hlegn hA hta hta2 hk0 n0 n1 n2 m0 m1 m2 h7 hw h5;clear t0 t1 t2 h;obtain⟨W,hW⟩:=zbo;have hB:=zi;have hs1:=zv;have HS1:=J hs1;clear hs1;have KR:=zn;have t0_1:=zoc;have t1_1:=zod;have t2_1:=zoe;go_enter FH,Fe
   go_wp2_with (first
    |(go_at_call 292;(with_reducible refine (hisn.out w3).mono ?_);rintro e w4 ⟨rfl,hb4⟩;have k4:=Ac k3 hb4;replace KR:=J (A6 KR.out hb4);have t0_4:=zqy;have t1_4:=zqz;have t2_4:=zra;have n0_4:=zrb;have n1_4:=zrc;have n2_4:=zrd;have m2_4:=A4 k4 M2.out;obtain⟨z0,z1,z2,z3,z4,z5,z6,z7,zf⟩:=zdz)
    |(go_at_call 266;(with_reducible refine (hst.out _).mono ?_);rintro e w3 ⟨rfl,hb3⟩;have k3:=zjh;replace KR:=J (A6 KR.out hb3);have t0_3:=znw;have t1_3:=znx;have t2_3:=zny;have n0_3:=zre;have n1_3:=zrf;have n2_3:=zrg)
    |(go_at_call 292;(with_reducible refine (his.out _).mono ?_);rintro e w2 ⟨rfl,hb2⟩;have k2:=Ac hB hb2;replace KR:=J (A6 KR.out hb2);have t0_2:=znz;have t1_2:=zoa;have t2_2:=zob))
   exact Aw (v:=.agg #[.int .i64 0,.int .i64 0,.slice A0 0 0,.int .i64 0,.int .i64 0,.slice A0 0 0,.int .i64 0,.bool false]) aG rfl (Qr.RRes.mk_none (Qr.put8 k4 (Ad _) _ _ _ _ _ _ _ _))):P:=h
theorem pp_f_loose (toks r:List AM) (b o c:Nat) (w:Ab) (h:Qr.RT w toks b o c) (hr:r <:+ toks) (tk:UInt8) (tt:List UInt8) (tg:Bool) (ht:AT r=⟨tk,tt,tg⟩) (h2:tk=114) (hw:Ec ⟨tk,tt,tg⟩=false) (h5:(AT r.tail).k=58) (h6:(AT r.tail).g=true) (h7:(AT r.tail.tail).g=false) :
  Af A8 291 #[.slice (A3 ⟨b,o,A0⟩) (toks.length+1) c,.int .i64 ((toks.length - r.length:Nat):Int)] w (Qr.RRes toks (A0) w):=by
 exact vqm
theorem ucu (h:P:=by
 go_enter FH,Fe
 go_wp2_with (first
  |(go_at_call 306;(with_reducible refine (HTM.out w4 (HH.out.below k4)).mono ?_);rintro e w5 hh;obtain⟨po,pf,pa,pb,psa,psn,psc,pka,pkn,pkc,pn,pz,rfl,hb5⟩:=hh.vals;have HHR:=zpp;clear hh;have k5:=zot;replace KR:=J (A6 KR.out hb5);obtain⟨z0,z1,z2,z3,z4,z5,z6,z7,zf⟩:=zdz)
  |(go_at_call 307;(with_reducible refine (hfo.out _).mono ?_);rintro e w5 ⟨rfl,hb5⟩;have k5:=zot;replace KR:=J (A6 KR.out hb5);have t0_5:=A4 k5 T0.out;have t1_5:=A4 k5 T1.out;have t2_5:=A4 k5 T2.out;obtain⟨z0,z1,z2,z3,z4,z5,z6,z7,zf⟩:=zdz)
  |(go_at_call 292;(with_reducible refine (hisn.out w3).mono ?_);rintro e w4 ⟨rfl,hb4⟩;have k4:=Ac k3 hb4;replace KR:=J (A6 KR.out hb4);have t0_4:=zqy;have t1_4:=zqz;have t2_4:=zra;have n0_4:=zrb;have n1_4:=zrc;have n2_4:=zrd;have m2_4:=A4 k4 M2.out)
  |(go_at_call 266;(with_reducible refine (hst.out _).mono ?_);rintro e w3 ⟨rfl,hb3⟩;have k3:=zjh;replace KR:=J (A6 KR.out hb3);have t0_3:=znw;have t1_3:=znx;have t2_3:=zny;have n0_3:=zre;have n1_3:=zrf;have n2_3:=zrg)
  |(go_at_call 292;(with_reducible refine (his.out _).mono ?_);rintro e w2 ⟨rfl,hb2⟩;have k2:=Ac hB hb2;replace KR:=J (A6 KR.out hb2);have t0_2:=znz;have t1_2:=zoa;have t2_2:=zob))
 first
  |have hsz:w.heap.size<w4.heap.size:=by have:=HS1.out;have:=hb2.size;have:=hb3.size;have:=hb4.size;omega
   exact y8x
  |exact Aw (v:=.agg #[.int .i64 0,.int .i64 0,.slice A0 0 0,.int .i64 0,.int .i64 0,.slice A0 0 0,.int .i64 0,.bool false]) aG rfl (Qr.RRes.mk_none (Qr.put8 k5 (Ad _) _ _ _ _ _ _ _ _))):P:=h
theorem ytw (h:P:=by
 clear t0 t1 t2 h;obtain⟨W,hW⟩:=zbo;have hB:=zi;have hs1:=zv;have HS1:=J hs1;clear hs1;have KR:=zn;have t0_1:=zoc;have t1_1:=zod;have t2_1:=zoe;exact ucu):P:=h
theorem vs4 (h:P:=by
 rw[hta2,hta,show ((toks.length - r.length+1+1:Nat):Int)=((toks.length - r.length:Nat):Int)+2 by omega]at hsub;rw[show (tk == 40)=false by rw[h2];rfl]at his;rw[show Qr.beg ⟨tk,tt,tg⟩=true by rw[h2]at hw ⊢;unfold Qr.beg;rw[hw];rfl]at hst;rw[hnx]at h5 h6;simp only at h5 h6;rw[show (nk == 58)=true by rw[h5];rfl]at hisn;have hxt:=zgr;obtain⟨A,hA⟩:=zu;rw[hA]at t0 t1 t2 n0 n1 n2 m0 m1 m2 hsub ⊢;have HA:=zfe;have hA1:=zcb;obtain⟨X,hX⟩:=zaq;obtain⟨K,hK⟩:=zfh;rw[hX]at t1 his hst;rw[hK]at t0 his hst;have HH:=zkq;have T0:=J t0;have T1:=J t1;have T2:=J t2;have hAl:=znc;obtain⟨NX,hNX⟩:=zcg;obtain⟨NK,hNK⟩:=zeg;rw[hNX]at n1 hisn;rw[hNK]at n0 hisn;have N0:=J n0;have N1:=J n1;have N2:=J n2;have hAl2:A+1<toks.length:=oQ;have hKl:=zqo;subst hKl;subst h6;rw[hX]at hxt
 first
  |guard_hyp f;have hyb:(X.toList == [121,101,97,114])=false:=by rw[hxt,AG];simpa using h8
   have hfo:=J (fun w=>r21_fieldOf_c X w);rw[show Qr.fldN X.data.toList=f by rw[hxt];unfold Qr.fldN;rw[show (⟨tt.toArray⟩:ByteArray).data.toList=tt from rfl,h9]]at hfo;obtain⟨PT,hPT⟩:∃ x,D7 false f r.tail.tail=x:=⟨_,rfl⟩;rw[hPT]at hsub ⊢;have HTM:=J hsub;clear hsub hPT;have M2:=J m2;clear hX hxt hK hNX hNK ht hnx h2 hleg hlegn hA hta hta2 hk0 n0 n1 n2 m0 m1 m2 h7 hw h5 h8 h9;clear t0 t1 t2 h;obtain⟨W,hW⟩:=zbo;have hB:=zi;have hs1:=zv;have HS1:=J hs1;clear hs1;have KR:=zn;have t0_1:=zoc;have t1_1:=zod;have t2_1:=zoe;go_enter FH,Fe
   go_wp2_with (first
    |(go_at_call 305;(with_reducible refine (HTM.out w5 (HH.out.below k5)).mono ?_);rintro e w6 hh;obtain⟨po,pf,pa,pb,psa,psn,psc,pka,pkn,pkc,pn,pz,rfl,hb6⟩:=hh.vals;have HHR:=zpp;clear hh;have k6:=Ac k5 hb6;replace KR:=J (A6 KR.out hb6);obtain⟨z0,z1,z2,z3,z4,z5,z6,z7,zf⟩:=zdz)
    |(go_at_call 307;(with_reducible refine (hfo.out _).mono ?_);rintro e w5 ⟨rfl,hb5⟩;have k5:=zot;replace KR:=J (A6 KR.out hb5);have t0_5:=A4 k5 T0.out;have t1_5:=A4 k5 T1.out;have t2_5:=A4 k5 T2.out)
    |(go_at_call 292;(with_reducible refine (hisn.out w3).mono ?_);rintro e w4 ⟨rfl,hb4⟩;have k4:=Ac k3 hb4;replace KR:=J (A6 KR.out hb4);have t0_4:=zqy;have t1_4:=zqz;have t2_4:=zra;have n0_4:=zrb;have n1_4:=zrc;have n2_4:=zrd;have m2_4:=A4 k4 M2.out)
    |(go_at_call 266;(with_reducible refine (hst.out _).mono ?_);rintro e w3 ⟨rfl,hb3⟩;have k3:=zjh;replace KR:=J (A6 KR.out hb3);have t0_3:=znw;have t1_3:=znx;have t2_3:=zny;have n0_3:=zre;have n1_3:=zrf;have n2_3:=zrg)
    |(go_at_call 292;(with_reducible refine (his.out _).mono ?_);rintro e w2 ⟨rfl,hb2⟩;have k2:=Ac hB hb2;replace KR:=J (A6 KR.out hb2);have t0_2:=znz;have t1_2:=zoa;have t2_2:=zob))
   have hsz:w.heap.size<w5.heap.size:=by have:=HS1.out;have:=hb2.size;have:=hb3.size;have:=hb4.size;have:=hb5.size;omega
   exact Aw (v:=.agg #[.int .i64 po,.int .i64 pf,.slice psa psn psc,.int .i64 pa,.int .i64 pb,.slice pka pkn pkc,.int .i64 pn,.bool pz]) aG rfl (HHR.out.carry oQ (Qr.put8 k6 (Ad _) _ _ _ _ _ _ _ _) ((Dn _ _).put8 oQ _ _ _ _ _ _ _ _))
  |have hXl:X=⟨#[121,101,97,114]⟩:=by rw[hxt,h8]
   subst hXl;obtain⟨PT,hPT⟩:∃ x,Ck false r.tail.tail=x:=⟨_,rfl⟩;rw[hPT]at hsub ⊢;have HTM:=J hsub;clear hsub hPT;have M2:=J m2;clear hX hxt hK hNX hNK ht hnx h2 hleg hlegn hA hta hta2 hk0 n0 n1 n2 m0 m1 m2 h7 hw h5 h8 hleg2 hk2;exact ytw):P:=h
theorem pp_f_year (toks r:List AM) (b o c:Nat) (w:Ab) (h:Qr.RT w toks b o c) (hr:r <:+ toks) (tk:UInt8) (tt:List UInt8) (tg:Bool) (ht:AT r=⟨tk,tt,tg⟩) (h2:tk=114) (hw:Ec ⟨tk,tt,tg⟩=false) (h5:(AT r.tail).k=58) (h6:(AT r.tail).g=true) (h7:(AT r.tail.tail).g=true) (h8:tt=[121,101,97,114]) :
  Af A8 291 #[.slice (A3 ⟨b,o,A0⟩) (toks.length+1) c,.int .i64 ((toks.length - r.length:Nat):Int)] w (Qr.RRes toks (Ck false r.tail.tail) w):=by
 have hleg:=zhv;rw[ht]at hleg;obtain⟨t0,t1,t2⟩:=zfy;rw[ht]at t0 t1 t2;simp only at t0 t1 t2;have hrl:=hr.length_le;have hlen:=h.len;have hbl:=h.lt;have hcap:=h.cap;have hmax:=h.max;have hmx:Ap=9223372036854775807:=rfl;have his:=zav;have hst:=zbq;simp only at his hst;have hk0:=zrh;obtain⟨⟨nk,nt,ng⟩,hnx⟩:=zku;have hta:=zji;have hlegn:=zeu;rw[hnx]at hlegn;obtain⟨n0,n1,n2⟩:=zco;rw[hnx,hta]at n0 n1 n2;simp only at n0 n1 n2;have hsf:=zdf;have hte:=zeo;have hisn:=zem;simp only at hisn;have hta2:=zjz;have hsuf2:=zqp;obtain⟨m0,m1,m2⟩:=h.at_ r.tail.tail hsuf2;rw[h7,hta2,hta]at m2;rw[hta2,hta]at m0 m1;have hsl2:=hsuf2.length_le;have hte2:=zjp;have hleg2:=h.leg hsuf2
 have hk2:(AT r.tail.tail).k≠0:=fun e=>by
  rcases hleg2 with h | h | h | h | h | h | ⟨_,_,h⟩
  all_goals first | (rw[h7]at h;cases h) | (rw[e]at h;exact absurd h oX)
 have hsub:=fun w h=>r21_parseYears_c toks r.tail.tail b o c w h hsuf2 hk2;exact vs4
theorem pp_f_nofield (toks r:List AM) (b o c:Nat) (w:Ab) (h:Qr.RT w toks b o c) (hr:r <:+ toks) (tk:UInt8) (tt:List UInt8) (tg:Bool) (ht:AT r=⟨tk,tt,tg⟩) (h2:tk=114) (hw:Ec ⟨tk,tt,tg⟩=false) (h5:(AT r.tail).k=58) (h6:(AT r.tail).g=true) (h7:(AT r.tail.tail).g=true) (h8:tt≠[121,101,97,114]) (h9:GA tt=A0) :
  Af A8 291 #[.slice (A3 ⟨b,o,A0⟩) (toks.length+1) c,.int .i64 ((toks.length - r.length:Nat):Int)] w (Qr.RRes toks (A0) w):=by
 exact vqm
theorem pp_f_field (toks r:List AM) (b o c:Nat) (w:Ab) (h:Qr.RT w toks b o c) (hr:r <:+ toks) (tk:UInt8) (tt:List UInt8) (tg:Bool) (ht:AT r=⟨tk,tt,tg⟩) (h2:tk=114) (hw:Ec ⟨tk,tt,tg⟩=false) (h5:(AT r.tail).k=58) (h6:(AT r.tail).g=true) (h7:(AT r.tail.tail).g=true) (h8:tt≠[121,101,97,114]) (f:Int) (h9:GA tt=A3 f) (hf:0<=f) :
  Af A8 291 #[.slice (A3 ⟨b,o,A0⟩) (toks.length+1) c,.int .i64 ((toks.length - r.length:Nat):Int)] w (Qr.RRes toks (D7 false f r.tail.tail) w):=by
 have hleg:=zhv;rw[ht]at hleg;obtain⟨t0,t1,t2⟩:=zfy;rw[ht]at t0 t1 t2;simp only at t0 t1 t2;have hrl:=hr.length_le;have hlen:=h.len;have hbl:=h.lt;have hcap:=h.cap;have hmax:=h.max;have hmx:Ap=9223372036854775807:=rfl;have his:=zav;have hst:=zbq;simp only at his hst;have hk0:=zrh;obtain⟨⟨nk,nt,ng⟩,hnx⟩:=zku;have hta:=zji;have hlegn:=zeu;rw[hnx]at hlegn;obtain⟨n0,n1,n2⟩:=zco;rw[hnx,hta]at n0 n1 n2;simp only at n0 n1 n2;have hsf:=zdf;have hte:=zeo;have hisn:=zem;simp only at hisn;have hta2:=zjz;have hsuf2:=zqp;obtain⟨m0,m1,m2⟩:=h.at_ r.tail.tail hsuf2;rw[h7,hta2,hta]at m2;rw[hta2,hta]at m0 m1;have hsl2:=hsuf2.length_le;have hte2:=zjp;have hsub:=fun w h=>r21_parseTerm_c toks r.tail.tail b o c f w h hsuf2;exact vs4
theorem r21_prim_c (toks r:List AM) (b o c n:Nat) (w:Ab) (h:Qr.RT w toks b o c) (hr:r <:+ toks)
  (hSub:∀ (r:List AM) (w:Ab),8*r.length+7<=n->r <:+ toks->Qr.RT w toks b o c->Af A8 124 #[.slice (A3 ⟨b,o,A0⟩) (toks.length+1) c,.int .i64 ((toks.length - r.length:Nat):Int)] w (Qr.RRes toks (DN false n r) w)) (hn:8*r.length+4<=n+1) :
  Af A8 291 #[.slice (A3 ⟨b,o,A0⟩) (toks.length+1) c,.int .i64 ((toks.length - r.length:Nat):Int)] w (Qr.RRes toks (Db false (n+1) r) w):=by
 obtain⟨⟨tk,tt,tg⟩,ht⟩:=zgn;by_cases h40:tk=40
 ·cases hx:DN false n r.tail with
  | none =>
   have e:Db false (n+1) r=A0:=by rw[Db,if_pos yD,hx]
   rw[e];exact pp_par_none toks r b o c n w h hr tk tt tg ht hSub hn h40 hx
  | some p =>
   obtain⟨q,r'⟩:=p;by_cases hc:(AT r').k=41
   ·have e:Db false (n+1) r=A3 (q,r'.tail):=by rw[Db,if_pos yD,hx];simp only;rw[if_pos hc]
    rw[e];exact pp_par_ok toks r b o c n w h hr tk tt tg ht hSub hn h40 q r' hx hc
   ·have e:Db false (n+1) r=A0:=by rw[Db,if_pos yD,hx];simp only;rw[if_neg hc]
    rw[e];exact pp_par_open toks r b o c n w h hr tk tt tg ht hSub hn h40 q r' hx hc
 ·have e0:Db false (n+1) r=JW false r:=by rw[Db,if_neg yD]
  rw[e0]
  have hw0:DM r=Qr.beg ⟨tk,tt,tg⟩:=by
   unfold DM Qr.beg;rw[ht,show ((tk == 40):Bool)=false from beq_eq_false_iff_ne.2 h40,Bool.or_false]
  have hgl:Ho 58 r=(tk == 114&&(AT r.tail).k == 58&&(AT r.tail).g):=by unfold Ho Qr.lk1;rw[ht]
  have hF : JW false r = if DM r = false then A0 else if Ho 58 r = true then (if (AT r.tail.tail).g = false then A0 else if DM r.tail.tail = false then A0 else if tt = [121, 101, 97, 114] then Ck false r.tail.tail else match GA tt with
    | none=>A0
    | some f=>D7 false f r.tail.tail) else D7 false 0 r:=by
   unfold JW;rw[ht];simp only;cases GA tt <;> rfl
  cases hb:Qr.beg ⟨tk,tt,tg⟩ with
  | false =>
   rw[hF,hw0,hb,if_pos rfl];exact pp_nobeg toks r b o c w h hr tk tt tg ht h40 hb
  | true =>
   rw[hF,hw0,hb,if_neg oZ];by_cases h3:tk=113
   ·rw[hgl,if_neg qK];exact pp_term_q toks r b o c w h hr tk tt tg ht h3
   ·have h4:tk=114/\Ec ⟨tk,tt,tg⟩=false:=by
     unfold Qr.beg at hb;simp only at hb;rw[show ((tk == 113):Bool)=false from beq_eq_false_iff_ne.2 h3,show ((tk == 40):Bool)=false from beq_eq_false_iff_ne.2 h40]at hb;simpa using hb
    obtain⟨h4,ha⟩:=h4;by_cases h5:(AT r.tail).k=58
    ·by_cases h6:(AT r.tail).g=true
     ·rw[hgl,if_pos (by rw[h4,h5,h6];decide)];by_cases h7:(AT r.tail.tail).g=true
      ·rw[if_neg (by rw[h7];simp)];by_cases hy:tt=[121,101,97,114]
       ·have e : (if DM r.tail.tail = false then A0 else if tt = [121, 101, 97, 114] then Ck false r.tail.tail else match GA tt with
         | none=>A0
         | some f=>D7 false f r.tail.tail)=Ck false r.tail.tail:=by
         by_cases hw:DM r.tail.tail=false
         ·rw[if_pos hw,Qr.pYears_no hw]
         ·rw[if_neg hw,if_pos hy]
        rw[e];exact pp_f_year toks r b o c w h hr tk tt tg ht h4 ha h5 h6 h7 hy
       ·cases hf:GA tt with
        | none =>
         have e:(if DM r.tail.tail=false then A0 else if tt=[121,101,97,114] then Ck false r.tail.tail else (A0:I6))=A0:=by
          simp[hy]
         show Af _ _ _ w (Qr.RRes toks (if DM r.tail.tail=false then A0 else if tt=[121,101,97,114] then Ck false r.tail.tail else (A0:I6)) w);rw[e];exact pp_f_nofield toks r b o c w h hr tk tt tg ht h4 ha h5 h6 h7 hy hf
        | some f =>
         have hf0:0<=f:=by
          unfold GA at hf
          repeat' split at hf
          all_goals first | (injection hf with hf;omega) | cases hf
         have e:(if DM r.tail.tail=false then A0 else if tt=[121,101,97,114] then Ck false r.tail.tail else D7 false f r.tail.tail)=D7 false f r.tail.tail:=by
          by_cases hw:DM r.tail.tail=false
          ·rw[if_pos hw,Qr.pTerm_no hw]
          ·rw[if_neg hw,if_neg hy]
         show Af _ _ _ w (Qr.RRes toks (if DM r.tail.tail=false then A0 else if tt=[121,101,97,114] then Ck false r.tail.tail else D7 false f r.tail.tail) w);rw[e];exact pp_f_field toks r b o c w h hr tk tt tg ht h4 ha h5 h6 h7 hy f hf hf0
      ·have h7':(AT r.tail.tail).g=false:=by simpa using h7
       rw[if_pos h7'];exact pp_f_loose toks r b o c w h hr tk tt tg ht h4 ha h5 h6 h7'
     ·have h6':(AT r.tail).g=false:=by simpa using h6
      rw[hgl,if_neg (by rw[h6'];simp)];exact pp_term_g toks r b o c w h hr tk tt tg ht h4 ha h5 h6'
    ·rw[hgl,if_neg (by rw[show (((AT r.tail).k == 58):Bool)=false from beq_eq_false_iff_ne.2 h5];simp)];exact pp_term_n toks r b o c w h hr tk tt tg ht h4 ha h5
theorem r21_joined_1 (B:Nat) (op:Int) (x:Cq) (a:Option Addr) (c:Nat) (w:Ab) (hK:Qr.KA B w a c [x]) :
  Af A8 207 #[.int .i64 op,.slice a 1 c] w fun e w'=>∃ t,e=.returned (.agg (Bb t).toArray)/\Qr.QC B w' x (Bb t)/\Aa w.heap.size w w':=by
 obtain⟨W,hW⟩:=zeh;have hB:=zi;obtain⟨rc,rf,rl⟩:=zbx;obtain⟨c0,c1,c2,c3,c4,c5⟩:=Tx.d6 rc;clear rc;obtain⟨b,o,sa,sc,ka,kc,rfl,hbl,d0,d1,d2,d3,d4,d5,hq⟩:=hK.get (k:=0) rfl;rw[Nat.zero_mul,Nat.add_zero]at d0 d1 d2 d3 d4 d5;replace d0:=A4 hB d0;replace d1:=A4 hB d1;replace d2:=A4 hB d2;replace d3:=A4 hB d3;replace d4:=A4 hB d4;replace d5:=A4 hB d5;have HQ:=J hq;clear hq hK hbl;have hP:=zcm;have HP:=J hP;clear hP;go_enter Tryz.func207,Tryz.ntmps207;go_wp2;refine Aw (v:=.agg #[.int .i64 x.op,.int .i64 x.fld,.slice sa x.ws.length sc,.int .i64 x.a,.int .i64 x.b,.slice ka x.ks.length kc]) (by simp[results,Tryz.results207,go_sem,c0,c1,c2,c3,c4,c5]) rfl ⟨⟨x.op,x.fld,sa,x.ws.length,sc,x.a,x.b,ka,x.ks.length,kc⟩,rfl,HQ.out.later HP.out,HP.out⟩
theorem r21_joined_m (B:Nat) (op:Int) (l:List Cq) (a:Option Addr) (c:Nat) (w:Ab) (hK:Qr.KA B w a c l) (h1:l.length≠1) (hn:Qr.nodesL l<=1000000) (hBw:B<=w.heap.size) :
  Af A8 207 #[.int .i64 op,.slice a l.length c] w fun e w'=>∃ t,e=.returned (.agg (Bb t).toArray)/\Qr.QC B w' (GI op l) (Bb t)/\Aa w.heap.size w w':=by
 obtain⟨i0,hi0,hz0,hz1,hz2⟩:=zms;have HI:=J hi0;clear hi0;have hll:=Qr.ks_nodes l;have HJ:=J (Qr.joined_many op l h1);have hl1:¬ ((l.length:Int)=1):=oQ;have hl2:=znf;clear h1;have hmx:Ap=9223372036854775807:=rfl;obtain⟨W,hW⟩:=zdp;have hB:=zi;have hWs:=zv;have HWS:=J hWs;clear hWs;have KR:=zz;go_enter Tryz.func207,Tryz.ntmps207;go_wp2;clear hW;go_loopw [5,6] (fun v i wr=>∃ (k:Nat) (T:List G0),k<=l.length/\i=.int .i64 k/\Qr.QL B w ((l.take k).flatMap (IW op)) T/\wr.ownsRow W.heap.size 29 6 v T.length (T.flatMap Bb)/\Aa W.heap.size W wr) (fun _ i _=>l.length - (intOf i).toNat)
 case atStart=>exact⟨0,[],Nat.zero_le _,rfl,by rw[List.take_zero];exact Qr.QL.nil _ _,World.ownsRow_lit (base:=W.heap.size) (e:=29) (size:=6) W #[] 0 oZ oK rfl,A9 _ _⟩
 case round =>
  obtain⟨k,T,hk,rfl,hT,hown,hb0⟩:=hrel;have hb:Aa w.heap.size w wr:=hB.trans (hb0.mono hB.size)
  have hTl:T.length<=1000000:=by
   rw[hT.1];have h1:=Qr.flat_len op (l.take k);have h2:=Qr.nodesL_take l k;omega
  have hsz:=hb0.size;by_cases hlt:k<l.length
  ·obtain⟨x,hx⟩:=zcq;obtain⟨b,o,sa2,sc2,ka2,kc2,rfl,hbl,d0,d1,d2,d3,d4,d5,hq⟩:=hK.get hx;have hxn:=Qr.nodes_kid (List.mem_of_getElem? hx);have hft:=Qr.flat_take (op:=op) hx;obtain⟨T2,hT2,hFA,hlow⟩:=hq.ka.ts;have hT2l:=hT2.1
   have hkn:x.ks.length<=1000000:=by
    have h1:=Qr.ks_nodes x.ks;cases x;simp only[Qr.nodes,Qr.Qy.ks]at *;omega
   replace d0:=A4 hb d0;replace d1:=A4 hb d1;replace d2:=A4 hb d2;replace d3:=A4 hb d3;replace d4:=A4 hb d4;replace d5:=A4 hb d5;have HQ:=J hq;clear hq;have HFT:=J hft;clear hft hx hlow;have HL2:=J hT2l;clear hT2l;have HT2:=J hT2;clear hT2;have HT:=J hT;clear hT;by_cases hxo:x.op=op
   ·have HO:=J hxo;rw[hxo]at d0;clear hxo;have HFL:=zjl;go_wp2_with (at_builtin;go_must (refine wpList_append_sl rfl _ _ 27 rfl W.heap.size 29 i0 _ 6 80 DG HI.out hz0 hz1 hz2 rfl oX _ T.length _ rfl hown ka2 x.ks.length kc2 (T2.flatMap Bb) rfl zsa zse ((hFA.below hb).cells Qr.encQ_len oQ) (Qr.encQ_ones T2) oK oQ oQ ?_);intro v' w2 hown2 hg2 hnil2);have hown3:w2.ownsRow W.heap.size 29 6 v' (T++T2).length ((T++T2).flatMap Bb):=by rw[Ag,AR,HL2.out];exact hown2
    have hb3:Aa W.heap.size W w2:=hb0.grown hg2 oQ (fun j hj=>(hown.lt j hj).1);go_roundw
    case rel=>exact⟨k+1,T++T2,hlt,by go_num,by rw[HFT.out,HFL.out];exact HT.out.app HT2.out,hown3,hb3⟩
    case measure=>simp[intOf];omega
   ·have HFL:=zkn;have hxb:(x.op == op)=false:=beq_eq_false_iff_ne.2 hxo;clear hxo;go_wp2_with (at_builtin;go_must (refine wpList_append_sl rfl _ _ 27 rfl W.heap.size 29 i0 _ 6 80 DG HI.out hz0 hz1 hz2 rfl oX _ T.length _ rfl (hown.alloc _) (A3 ⟨_,0,A0⟩) 1 1 [.int .i64 x.op,.int .i64 x.fld,.slice sa2 x.ws.length sc2,.int .i64 x.a,.int .i64 x.b,.slice ka2 x.ks.length kc2] rfl rfl oF oD oG oK oQ oW ?_);intro v' w2 hown2 hg2 hnil2);have hown3:w2.ownsRow W.heap.size 29 6 v' (T++[(⟨x.op,x.fld,sa2,x.ws.length,sc2,x.a,x.b,ka2,x.ks.length,kc2⟩:G0)]).length ((T++[(⟨x.op,x.fld,sa2,x.ws.length,sc2,x.a,x.b,ka2,x.ks.length,kc2⟩:G0)]).flatMap Bb):=by rw[Ag,AR];exact hown2
    have hb3:Aa W.heap.size W w2:=(hb0.trans ((A9 _ _).mono hb0.size)).grown hg2 oW (fun j hj=>(hown.lt j hj).1);go_roundw
    case rel=>exact⟨k+1,T++[⟨x.op,x.fld,sa2,x.ws.length,sc2,x.a,x.b,ka2,x.ks.length,kc2⟩],hlt,by go_num,by rw[HFT.out,HFL.out];exact HT.out.app (Qr.QL.one HQ.out),hown3,hb3⟩
    case measure=>simp[intOf];omega
  ·have hkk:k=l.length:=oQ;subst hkk;rw[At]at hT;replace KR:=J (A6 KR.out hb0);obtain⟨rc,rf,rl⟩:=Tx.blk KR.out;obtain⟨r0,r1,r2,r3,r4,r5⟩:=Tx.d6 rc;clear rc;have hTL:T.length=(l.flatMap (IW op)).length:=hT.1;obtain⟨va,vc,rfl,hFA3,hlow3⟩:=Br.FA.of_own Qr.encQ_len hown rfl;have hP:=zjr;have HP:=J hP;clear hP;have HTL:=J hTL;clear hTL
   have hkeep:∀ (w':Ab),Aa w.heap.size w w'->Qr.Kp W.heap.size wr w'->Qr.QC B w' (GI op l) [.int .i64 op,.int .i64 0,.slice A0 0 0,.int .i64 0,.int .i64 0,.slice va (l.flatMap (IW op)).length vc]:=by
    intro w' hb' hKp;rw[HJ.out];have hBW:B<=W.heap.size:=Au hBw hB.size;exact Cw (ws:=[]) (.inl ⟨rfl,_,_,rfl⟩) (fun h=>absurd rfl h) (Qr.KA.of_ts (hT.later hb') (Qr.Kp.fa hFA3 (fun _ ad had=>hlow3 ad had) hKp) (fun hn ad had=>Au hBW (hlow3 ad had)))
   have HK:=J hkeep;clear hkeep;have hRW:w.heap.size<W.heap.size:=by have:=HWS.out;omega
   clear hFA3 hlow3 hown hT;go_wp2;refine Aw (v:=.agg #[.int .i64 op,.int .i64 0,.slice A0 0 0,.int .i64 0,.int .i64 0,.slice va T.length vc]) (by simp[results,Tryz.results207,go_sem,r0,r1,r2,r3,r4,r5]) rfl ⟨⟨op,0,A0,0,0,0,0,va,T.length,vc⟩,rfl,by rw[show Bb ⟨op,0,A0,0,0,0,0,va,T.length,vc⟩=[.int .i64 op,.int .i64 0,.slice A0 0 0,.int .i64 0,.int .i64 0,.slice va (l.flatMap (IW op)).length vc] by rw[<- HTL.out]];exact HK.out _ (HP.out _ _ _ _ _ _) ((Dn _ _).put6 hRW _ _ _ _ _ _),HP.out _ _ _ _ _ _⟩
theorem r21_joined_c (B:Nat) (op:Int) (l:List Cq) (a:Option Addr) (c:Nat) (w:Ab) (hK:Qr.KA B w a c l) (hn:Qr.nodesL l<=1000000) (hBw:B<=w.heap.size) :
  Af A8 207 #[.int .i64 op,.slice a l.length c] w fun e w'=>∃ t,e=.returned (.agg (Bb t).toArray)/\Qr.QC B w' (GI op l) (Bb t)/\Aa w.heap.size w w':=by
 by_cases h1:l.length=1
 ·match l,h1,hK with
  | [x],_,hK=>exact r21_joined_1 B op x a c w hK
 ·exact r21_joined_m B op l a c w hK h1 hn hBw
namespace Qr
theorem far8 {g R:Nat}{w:Ab}{o:Obj} (h:w.heap[g]?=A3 o) (hg:g≠R) (v0 v1 v2 v3 v4 v5 v6 v7:Ak):((((((((w.setCell ⟨R,0,A0⟩ v0).setCell ⟨R,1,A0⟩ v1).setCell ⟨R,2,A0⟩ v2).setCell ⟨R,3,A0⟩ v3).setCell ⟨R,4,A0⟩ v4).setCell ⟨R,5,A0⟩ v5).setCell ⟨R,6,A0⟩ v6).setCell ⟨R,7,A0⟩ v7).heap[g]?=A3 o :=
 Tx.blk_far (Tx.blk_far (far6 h hg _ _ _ _ _ _) hg _) hg _
end Qr
theorem vi1 (h:P:=by
 have hlen:=h.len;have hbl:=h.lt;have hcap:=h.cap;have hmax:=h.max;have hmx:Ap=9223372036854775807:=rfl;have HH:=zkq;obtain⟨A,hA⟩:=zu;rw[hA]at hPr ⊢;obtain⟨W,hW⟩:=zbo;have hB:=zi;have hs1:=zv;have HS1:=J hs1;clear hs1;have KR:=zn;subst hx
 first
  |guard_hyp hi;have HPR:=J hPr;clear hPr
   have hlegc:=h.leg hs;have hop:=J (fun w=>r21_op_c (AT r') hlegc E5 w);have hcl:=hs.length_le;obtain⟨A2,hA2⟩:=zmt;obtain⟨c0,c1,c2⟩:=h.at_ r' hs;rw[hA2]at c0 c1 c2;have hio:((AT r').k == 114&&(AT r').t == E5)=E6 E5 r':=rfl;rw[hio,hi]at hop;obtain⟨CX,hCX⟩:=zgf;obtain⟨CK,hCK⟩:=zpi;obtain⟨CG,hCG⟩:=zrq;rw[hCX,hCK,hCG]at hop;rw[hCX]at c1;rw[hCK]at c0;rw[hCG]at c2
   first
    |guard_hyp hy;have hOP:Hid (∀ w,Af A8 206 #[.agg #[.int .i64 CK,.string CX,.bool CG],.string ⟨#[78,79,84]⟩] w fun e w'=>e=.returned (.bool true)/\Aa w.heap.size w w'):=hop
     have hA2l:=zpv;have C0:=J c0;have C1:=J c1;have C2:=J c2;have HA2:=zla;have hta:=Qr.tail_at hs (Qr.isOp_ne hi);rw[hta,hA2,show ((A2+1:Nat):Int)=(A2:Int)+1 by omega]at hPr2;subst hy;have HPR2:=J hPr2;clear hPr2;have hlA2:A2<toks.length:=by have:=(Qr.tail_suf hs).length_le;have:=(Qr.tail_eats (Qr.isOp_ne hi)).2;omega
     clear c0 c1 c2 hCX hCK hCG hlegc hop hio hi hA h hA2 hta
     first
      |guard_hyp r2;obtain⟨A5,hA5⟩:∃ A,toks.length - r2.length=A:=⟨_,rfl⟩
       have HA5:=J hA5;clear hA5;go_enter Tryz.func265,Tryz.ntmps265
       go_wp2_with (first
        |(go_at_call 291;(with_reducible refine (HPR2.out w5 (HH.out.below k5)).mono ?_);rintro e w6 hh;obtain⟨uo,uf,ua,ub,usa,usn,usc,uka,ukn,ukc,rfl,hq6,hb6⟩:=hh.get;clear hh;rw[HA5.out];have s6:=hb6.size;have k6:=Ac k5 hb6;have ew6:=A9 w6 (.cells #[.int .i64 uo,.int .i64 uf,.slice usa usn usc,.int .i64 ua,.int .i64 ub,.slice uka ukn ukc,.int .i64 (A5:Int),.bool true] 141);have k7:=Ac k6 ew6;have ew6a:=zbh;have k8:=Ac k7 ew6a;replace KR:=J (A6 KR.out hb6);replace KP:=J (A6 KP.out hb6);replace KR:=J (A6 KR.out ew6);replace KP:=J (A6 KP.out ew6);have KU:=J (Tx.han ew6);obtain⟨y6_0,y6_1,y6_2,y6_3,y6_4,y6_5,y6_6,y6_7,-⟩:=Tx.c8 KP.out;obtain⟨x6_0,x6_1,x6_2,x6_3,x6_4,x6_5,x6_6,x6_7,-⟩:=Tx.c8 KU.out;have KR8:=J (A6 KR.out ew6a);obtain⟨z0,z1,z2,z3,z4,z5,z6,z7,zf⟩:=Tx.c8 KR8.out;have HQ6:=J hq6;clear hq6)
        |(go_at_call 206;(with_reducible refine (hOP.out _).mono ?_);rintro e w5 ⟨rfl,hb5⟩;have k5:=zot;have s5:=hb5.size;rw[An]at s5;replace KR:=J (A6 KR.out hb5);replace KP:=J (A6 KP.out hb5);obtain⟨z0,z1,z2,z3,z4,z5,z6,z7,zf⟩:=zdz;obtain⟨y0,y1,y2,y3,y4,y5,y6,y7,-⟩:=Tx.c8 KP.out)
        |(go_at_call 291;(with_reducible refine (HPR.out W (HH.out.below hB)).mono ?_);rintro e w3 hh;obtain⟨po,pf,pa,pb,psa,psn,psc,pka,pkn,pkc,rfl,hq3,hb3⟩:=hh.get;clear hh;rw[HA2.out];have k3:=Ac hB hb3;have ew3:=zay;have k4:=Ac k3 ew3;replace KR:=J (A6 (A6 KR.out hb3) ew3);have KP:=zqx;have c0_4:=A4 k4 C0.out;have c1_4:=A4 k4 C1.out;have c2_4:=A4 k4 C2.out;have HQ3:=J hq3;clear hq3))
       refine Aw (v:=.agg #[.int .i64 7,.int .i64 0,.slice A0 0 0,.int .i64 0,.int .i64 0,.slice (A3 ⟨w6.heap.size+1,0,A0⟩) 2 2,.int .i64 (A5:Int),.bool true]) uG rfl ?_;have e1:=HS1.out
       have hblk:((w6.alloc (.cells #[.int .i64 uo,.int .i64 uf,.slice usa usn usc,.int .i64 ua,.int .i64 ub,.slice uka ukn ukc,.int .i64 (A5:Int),.bool true] 141)).alloc (.cells #[.int .i64 po,.int .i64 pf,.slice psa psn psc,.int .i64 pa,.int .i64 pb,.slice pka pkn pkc,.int .i64 uo,.int .i64 uf,.slice usa usn usc,.int .i64 ua,.int .i64 ub,.slice uka ukn ukc] 29)).heap[w6.heap.size+1]?=A3 (.cells ([(⟨po,pf,psa,psn,psc,pa,pb,pka,pkn,pkc⟩:G0),(⟨uo,uf,usa,usn,usc,ua,ub,uka,ukn,ukc⟩:G0)].flatMap Bb).toArray 29 (0,0)):=by
        have:=Tx.han ew6a
        rwa [An]at this
       have hfa:=Qr.fa_new (Qr.far8 hblk (show w6.heap.size+1≠w.heap.size by have:=k6.size;omega) (.int .i64 7) (.int .i64 0) (.slice A0 0 0) (.int .i64 0) (.int .i64 0) (.slice (A3 ⟨w6.heap.size+1,0,A0⟩) 2 2) (.int .i64 (A5:Int)) (.bool true)) zsv;have hKa:=(((((Bc (M:=W.heap.size) ew3).trans (Bc hb5)).trans (Bc hb6)).trans (Bc ew6)).trans (Bc ew6a)).put8 (g:=w.heap.size) oQ (.int .i64 7) (.int .i64 0) (.slice A0 0 0) (.int .i64 0) (.int .i64 0) (.slice (A3 ⟨w6.heap.size+1,0,A0⟩) 2 2) (.int .i64 (A5:Int)) (.bool true);have hKb:=((Bc (M:=w5.heap.size) ew6).trans (Bc ew6a)).put8 (g:=w.heap.size) (by have:=hb3.size;omega) (.int .i64 7) (.int .i64 0) (.slice A0 0 0) (.int .i64 0) (.int .i64 0) (.slice (A3 ⟨w6.heap.size+1,0,A0⟩) 2 2) (.int .i64 (A5:Int)) (.bool true);have hq1':=(HQ3.out.kp hKa).mono (show w.heap.size<=W.heap.size by omega);have hq5':=(HQ6.out.kp hKb).mono (show w.heap.size<=w5.heap.size from k5.size);have hql:=(Qr.QL.one (t:=⟨po,pf,psa,psn,psc,pa,pb,pka,pkn,pkc⟩) hq1').app (Qr.QL.one (t:=⟨uo,uf,usa,usn,usc,ua,ub,uka,ukn,ukc⟩) hq5');have hka:=Qr.KA.of_ts hql hfa (fun _ ad e9=>by cases e9;simp only;have:=k6.size;omega);exact Qr.RRes.mk_some (by rw[HA5.out]) (Cw (ws:=[]) (.inl ⟨rfl,_,_,rfl⟩) (fun h=>absurd rfl h) hka) (Qr.put8 k8 (Ad _) _ _ _ _ _ _ _ _)
      |exact ug9
    |have hOP:Hid (∀ w,Af A8 206 #[.agg #[.int .i64 CK,.string CX,.bool CG],.string ⟨#[78,79,84]⟩] w fun e w'=>e=.returned (.bool false)/\Aa w.heap.size w w'):=hop
     have hA2l:=zpv;have C0:=J c0;have C1:=J c1;have C2:=J c2;have HA2:=zla;clear c0 c1 c2 hCX hCK hCG hlegc hop hio hi hA h hA2;exact ug9
  |have HPR:=J hPr;clear hPr h hA
   go_enter Tryz.func265,Tryz.ntmps265
   go_wp2_with (first
    |(go_at_call 291;(with_reducible refine (HPR.out W (HH.out.below hB)).mono ?_);rintro e w3 hh;obtain⟨po,pf,pa,pb,psa,psn,psc,pka,pkn,pkc,pn,rfl,hb3⟩:=hh.bad;clear hh;have k3:=Ac hB hb3;have ew3:=zct;have k4:=Ac k3 ew3;replace KR:=J (A6 (A6 KR.out hb3) ew3);obtain⟨z0,z1,z2,z3,z4,z5,z6,z7,zf⟩:=zdz))
   exact Aw (v:=.agg #[.int .i64 po,.int .i64 pf,.slice psa psn psc,.int .i64 pa,.int .i64 pb,.slice pka pkn pkc,.int .i64 pn,.bool false]) uG rfl (Qr.RRes.mk_none (Qr.put8 k4 (Ad _) _ _ _ _ _ _ _ _))):P:=h
theorem pn_none (toks r:List AM) (b o c:Nat) (w:Ab) (h:Qr.RT w toks b o c) (x:I6)
  (hPr:∀ w,Qr.RT w toks b o c->Af A8 291 #[.slice (A3 ⟨b,o,A0⟩) (toks.length+1) c,.int .i64 ((toks.length - r.length:Nat):Int)] w (Qr.RRes toks x w)) (hx:x=A0) :
  Af A8 265 #[.slice (A3 ⟨b,o,A0⟩) (toks.length+1) c,.int .i64 ((toks.length - r.length:Nat):Int)] w (Qr.RRes toks (A0) w):=by
 exact vi1
theorem ug9 (h:P:=by
 go_enter Tryz.func265,Tryz.ntmps265
 go_wp2_with (first
  |(go_at_call 291;(with_reducible refine (HPR2.out w5 (HH.out.below k5)).mono ?_);rintro e w6 hh;obtain⟨uo,uf,ua,ub,usa,usn,usc,uka,ukn,ukc,un,rfl,hb6⟩:=hh.bad;clear hh;have s6:=hb6.size;have k6:=Ac k5 hb6;have ew6:=A9 w6 (.cells #[.int .i64 uo,.int .i64 uf,.slice usa usn usc,.int .i64 ua,.int .i64 ub,.slice uka ukn ukc,.int .i64 un,.bool false] 141);have k7:=Ac k6 ew6;have ew6a:=zbh;have k8:=Ac k7 ew6a;replace KR:=J (A6 KR.out hb6);replace KP:=J (A6 KP.out hb6);replace KR:=J (A6 KR.out ew6);replace KP:=J (A6 KP.out ew6);have KU:=J (Tx.han ew6);obtain⟨y6_0,y6_1,y6_2,y6_3,y6_4,y6_5,y6_6,y6_7,-⟩:=Tx.c8 KP.out;obtain⟨x6_0,x6_1,x6_2,x6_3,x6_4,x6_5,x6_6,x6_7,-⟩:=Tx.c8 KU.out;have KR8:=J (A6 KR.out ew6a);obtain⟨z0,z1,z2,z3,z4,z5,z6,z7,zf⟩:=Tx.c8 KR8.out)
  |(go_at_call 206;(with_reducible refine (hOP.out _).mono ?_);rintro e w5 ⟨rfl,hb5⟩;have k5:=zot;have s5:=hb5.size;rw[An]at s5;replace KR:=J (A6 KR.out hb5);replace KP:=J (A6 KP.out hb5);obtain⟨z0,z1,z2,z3,z4,z5,z6,z7,zf⟩:=zdz;obtain⟨y0,y1,y2,y3,y4,y5,y6,y7,-⟩:=Tx.c8 KP.out)
  |(go_at_call 291;(with_reducible refine (HPR.out W (HH.out.below hB)).mono ?_);rintro e w3 hh;obtain⟨po,pf,pa,pb,psa,psn,psc,pka,pkn,pkc,rfl,hq3,hb3⟩:=hh.get;clear hh;rw[HA2.out];have k3:=Ac hB hb3;have ew3:=zay;have k4:=Ac k3 ew3;replace KR:=J (A6 (A6 KR.out hb3) ew3);have KP:=zqx;have c0_4:=A4 k4 C0.out;have c1_4:=A4 k4 C1.out;have c2_4:=A4 k4 C2.out;have HQ3:=J hq3;clear hq3))
 first
  |exact Aw (v:=.agg #[.int .i64 7,.int .i64 0,.slice A0 0 0,.int .i64 0,.int .i64 0,.slice (A3 ⟨w6.heap.size+1,0,A0⟩) 2 2,.int .i64 un,.bool false]) uG rfl (Qr.RRes.mk_none (Qr.put8 k8 (Ad _) _ _ _ _ _ _ _ _))
  |exact Aw (v:=.agg #[.int .i64 po,.int .i64 pf,.slice psa psn psc,.int .i64 pa,.int .i64 pb,.slice pka pkn pkc,.int .i64 (A2:Int),.bool true]) uG rfl (Qr.RRes.mk_some (by rw[HA2.out]) ((HQ3.out.kp (((Bc (A9 w3 _)).trans (Bc hb5)).put8 yG _ _ _ _ _ _ _ _)).mono yG) (Qr.put8 k5 (Ad _) _ _ _ _ _ _ _ _))):P:=h
theorem vzg (h:P:=by
 exact vi1):P:=h
theorem pn_one (toks r:List AM) (b o c:Nat) (w:Ab) (h:Qr.RT w toks b o c) (x:I6)
  (hPr:∀ w,Qr.RT w toks b o c->Af A8 291 #[.slice (A3 ⟨b,o,A0⟩) (toks.length+1) c,.int .i64 ((toks.length - r.length:Nat):Int)] w (Qr.RRes toks x w)) (q:Cq) (r':List AM) (hx:x=A3 (q,r')) (hs:r' <:+ toks) (hi:E6 E5 r'=false) :
  Af A8 265 #[.slice (A3 ⟨b,o,A0⟩) (toks.length+1) c,.int .i64 ((toks.length - r.length:Nat):Int)] w (Qr.RRes toks (A3 (q,r')) w):=by
 exact vzg
theorem vll (h:P:=by
 exact vzg):P:=h
theorem pn_bad (toks r:List AM) (b o c:Nat) (w:Ab) (h:Qr.RT w toks b o c) (x:I6)
  (hPr:∀ w,Qr.RT w toks b o c->Af A8 291 #[.slice (A3 ⟨b,o,A0⟩) (toks.length+1) c,.int .i64 ((toks.length - r.length:Nat):Int)] w (Qr.RRes toks x w)) (q:Cq) (r':List AM) (hx:x=A3 (q,r')) (hs:r' <:+ toks) (hi:E6 E5 r'=true) (y:I6) (hPr2:∀ w,Qr.RT w toks b o c->Af A8 291 #[.slice (A3 ⟨b,o,A0⟩) (toks.length+1) c,.int .i64 ((toks.length - r'.tail.length:Nat):Int)] w (Qr.RRes toks y w)) (hy:y=A0) :
  Af A8 265 #[.slice (A3 ⟨b,o,A0⟩) (toks.length+1) c,.int .i64 ((toks.length - r.length:Nat):Int)] w (Qr.RRes toks (A0) w):=by
 exact vll
theorem pn_two (toks r:List AM) (b o c:Nat) (w:Ab) (h:Qr.RT w toks b o c) (x:I6)
  (hPr:∀ w,Qr.RT w toks b o c->Af A8 291 #[.slice (A3 ⟨b,o,A0⟩) (toks.length+1) c,.int .i64 ((toks.length - r.length:Nat):Int)] w (Qr.RRes toks x w)) (q:Cq) (r':List AM) (hx:x=A3 (q,r')) (hs:r' <:+ toks) (hi:E6 E5 r'=true) (y:I6) (hPr2:∀ w,Qr.RT w toks b o c->Af A8 291 #[.slice (A3 ⟨b,o,A0⟩) (toks.length+1) c,.int .i64 ((toks.length - r'.tail.length:Nat):Int)] w (Qr.RRes toks y w)) (q2:Cq) (r2:List AM) (hy:y=A3 (q2,r2)) :
  Af A8 265 #[.slice (A3 ⟨b,o,A0⟩) (toks.length+1) c,.int .i64 ((toks.length - r.length:Nat):Int)] w (Qr.RRes toks (A3 (.mk 7 0 [] 0 0 [q,q2],r2)) w):=by
 exact vll
theorem r21_not_c (toks:List AM) (b o c n:Nat) (hPr:∀ (r:List AM) (w:Ab),8*r.length+4<=n->r <:+ toks->Qr.RT w toks b o c->Af A8 291 #[.slice (A3 ⟨b,o,A0⟩) (toks.length+1) c,.int .i64 ((toks.length - r.length:Nat):Int)] w (Qr.RRes toks (Db false n r) w))
  (r:List AM) (w:Ab) (hn:8*r.length+5<=n+1) (hr:r <:+ toks) (h:Qr.RT w toks b o c) :
  Af A8 265 #[.slice (A3 ⟨b,o,A0⟩) (toks.length+1) c,.int .i64 ((toks.length - r.length:Nat):Int)] w (Qr.RRes toks (EJ false (n+1) r) w):=by
 have h1:=fun w h=>hPr r w oQ hr h;have he:=(Qr.eats_all false n).2.2.2.2.2 r
 have e0:EJ false (n+1) r=match Db false n r with
   | none=>A0
   | some (q,r')=>if E6 E5 r'=true then match Db false n r'.tail with
     | none=>A0
     | some (q2,r2)=>A3 (.mk 7 0 [] 0 0 [q,q2],r2)
    else A3 (q,r'):=by rw[EJ];rfl
 cases ho:Db false n r with
 | none =>
  rw[ho]at h1 e0;rw[e0];exact pn_none toks r b o c w h A0 h1 rfl
 | some p =>
  obtain⟨q,r'⟩:=p;rw[ho]at h1 e0;have hs:=he q r' ho;have hs':r' <:+ toks:=hs.1.trans hr;by_cases hi:E6 E5 r'=true
  ·have hte:=zmg;have h2:=fun w h=>hPr r'.tail w (by have:=hs.2;have:=hte.2;omega) (Qr.tail_suf hs') h;cases hy:Db false n r'.tail with
   | none =>
    rw[hy]at h2;rw[show EJ false (n+1) r=A0 by rw[e0];simp only;rw[if_pos hi,hy]];exact pn_bad toks r b o c w h _ h1 q r' rfl hs' hi A0 h2 rfl
   | some p2 =>
    obtain⟨q2,r2⟩:=p2;rw[hy]at h2;rw[show EJ false (n+1) r=A3 (.mk 7 0 [] 0 0 [q,q2],r2) by rw[e0];simp only;rw[if_pos hi,hy]];exact pn_two toks r b o c w h _ h1 q r' rfl hs' hi _ h2 q2 r2 rfl
  ·rw[show EJ false (n+1) r=A3 (q,r') by rw[e0];simp only;rw[if_neg hi]];exact pn_one toks r b o c w h _ h1 q r' rfl hs' iD
namespace Qr
def Hd (base P:Nat) (w:Ab) (own:Option Nat) (k:Qy) (t:QT):Prop :=
 ∃ B w0,QC B w0 k (encQ t)/\Kp B w0 w/\(∀ b,own=A3 b->b<B\/w0.heap.size<=b)/\(P<B\/w0.heap.size<=P)/\base<=B
theorem Hd.set {base P:Nat}{w:Ab}{own:Option Nat}{k:Qy}{t:QT} (h:Hd base P w own k t) (i:Nat) (u:Ak):Hd base P (w.setCell ⟨P,i,A0⟩ u) own k t:=by
 obtain⟨B,w0,a,b,c,d,e⟩:=h;refine⟨B,w0,a,?_,c,d,e⟩;rcases d with d | d
 ·exact b.set d u
 ·exact b.setN d u
theorem Hd.later {base P:Nat}{w w':Ab}{own:Option Nat}{k:Qy}{t:QT} (h:Hd base P w own k t) (hb:Aa w.heap.size w w'):Hd base P w' own k t:=by
 obtain⟨B,w0,a,b,c,d,e⟩:=h;exact⟨B,w0,a,b.trans (Kp.below hb),c,d,e⟩
theorem Hd.grown {base P:Nat}{w w':Ab}{own own':Option Nat}{k:Qy}{t:QT} (h:Hd base P w own k t) (hg:w.grownBy w' own) (ho:own'=own\/own'=A3 w.heap.size):Hd base P w' own' k t:=by
 obtain⟨B,w0,a,b,c,d,e⟩:=h;refine⟨B,w0,a,⟨Au b.size hg.size,fun i i1 i2=>?_⟩,fun x hx=>?_,d,e⟩
 ·exact (hg.block i (AN i2 b.size) (fun e=>by have:=c i e.symm;omega)).trans (b.block i i1 i2)
 ·rcases ho with ho | ho
  ·exact c x (by rw[<- ho];exact hx)
  ·rw[ho]at hx;injection hx with hx;have:=b.size;omega
theorem Hd.ql {base P:Nat}{w:Ab}{own:Option Nat}{k:Qy}{t:QT} (h:Hd base P w own k t):QC base w k (encQ t):=by
 obtain⟨B,w0,a,b,_,_,e⟩:=h;exact (a.kp b).mono e
def HD (base P:Nat) (w:Ab) (own:Option Nat) (ks:List Qy) (T:List QT):Prop:=T.length=ks.length/\∀ (j:Nat) k t,ks[j]?=A3 k->T[j]?=A3 t->Hd base P w own k t
theorem HD.nil (base P:Nat) (w:Ab) (own:Option Nat):HD base P w own [] []:=⟨rfl,fun j k t h=>by simp at h⟩
theorem HD.map {base P:Nat}{w w':Ab}{own own':Option Nat}{ks:List Qy}{T:List QT} (h:HD base P w own ks T) (f:∀ k t,Hd base P w own k t->Hd base P w' own' k t):HD base P w' own' ks T:=⟨h.1,fun j k t h1 h2=>f k t (h.2 j k t h1 h2)⟩
theorem HD.snoc {base P:Nat}{w:Ab}{own:Option Nat}{ks:List Qy}{T:List QT}{q:Qy}{t:QT} (h:HD base P w own ks T) (h2:Hd base P w own q t):HD base P w own (ks++[q]) (T++[t]):=by
 refine⟨by rw[Ag,Ag,h.1];rfl,fun j k t hk ht=>?_⟩;by_cases hj:j<ks.length
 ·rw[Cd hj]at hk;rw[Cd UW]at ht;exact h.2 j k t hk ht
 ·rw[BE oQ]at hk;rw[BE (by rw[h.1];omega),h.1]at ht
  match hjj:j - ks.length,hk,ht with
  | 0,hk,ht=>injection hk with hk;injection ht with ht;rw[<- hk,<- ht];exact h2
  | i+1,hk,_=>simp at hk
theorem HD.ka {base P e:Nat}{w:Ab}{v:Ak}{ks:List Qy}{T:List QT} (h:HD base P w v.ownBlock ks T) (ho:w.ownsRow base e 6 v T.length (T.flatMap encQ)):∃ a c,v=.slice a ks.length c/\KA base w a c ks:=by
 obtain⟨a,c,e1,hf,hb⟩:=Br.FA.of_own encQ_len ho rfl;exact⟨a,c,by rw[<- h.1];exact e1,KA.of_ts ⟨h.1,fun j k t h1 h2=>(h.2 j k t h1 h2).ql⟩ hf (fun _ ad had=>hb ad had)⟩
def ms (P N:Nat) (w:Ab):Nat:=match w.cell? ⟨P,7,A0⟩ with
 | some (.bool true) => (match w.cell? ⟨P, 6, A0⟩ with
  | some (.int _ n)=>N+1 - n.toNat
  | _=>0)
 | _=>0
theorem ms_of {P N:Nat}{w:Ab}{v0 v1 v2 v3 v4 v5:Ak}{n:Int}{z:Bool}{t:TypeId} (h:w.heap[P]?=A3 (.cells #[v0,v1,v2,v3,v4,v5,.int .i64 n,.bool z] t (0,0))):ms P N w=if z=true then N+1 - n.toNat else 0:=by
 obtain⟨-,-,-,-,-,-,c6,c7,-⟩:=Tx.c8 h;unfold ms;rw[c7,c6];cases z <;> rfl
theorem blk_put8 {P:Nat}{w:Ab}{o0 o1 o2 o3 o4 o5 o6 o7:Ak}{t:TypeId} (h:w.heap[P]?=A3 (.cells #[o0,o1,o2,o3,o4,o5,o6,o7] t (0,0))) (v0 v1 v2 v3 v4 v5 v6 v7:Ak) :
  ((((((((w.setCell ⟨P,0,A0⟩ v0).setCell ⟨P,1,A0⟩ v1).setCell ⟨P,2,A0⟩ v2).setCell ⟨P,3,A0⟩ v3).setCell ⟨P,4,A0⟩ v4).setCell ⟨P,5,A0⟩ v5).setCell ⟨P,6,A0⟩ v6).setCell ⟨P,7,A0⟩ v7).heap[P]?=A3 (.cells #[v0,v1,v2,v3,v4,v5,v6,v7] t (0,0)):=by
 have h0:=BW (i:=0) h v0;have h1:=BW (i:=1) h0 v1;have h2:=BW (i:=2) h1 v2;have h3:=BW (i:=3) h2 v3;have h4:=BW (i:=4) h3 v4;have h5:=BW (i:=5) h4 v5;have h6:=BW (i:=6) h5 v6;have h7:=BW (i:=7) h6 v7;simpa using h7
theorem Hd.put8 {base P:Nat}{w:Ab}{own:Option Nat}{k:Qy}{t:QT} (h:Hd base P w own k t) (v0 v1 v2 v3 v4 v5 v6 v7:Ak):Hd base P ((((((((w.setCell ⟨P,0,A0⟩ v0).setCell ⟨P,1,A0⟩ v1).setCell ⟨P,2,A0⟩ v2).setCell ⟨P,3,A0⟩ v3).setCell ⟨P,4,A0⟩ v4).setCell ⟨P,5,A0⟩ v5).setCell ⟨P,6,A0⟩ v6).setCell ⟨P,7,A0⟩ v7) own k t :=
 (((((((h.set 0 v0).set 1 v1).set 2 v2).set 3 v3).set 4 v4).set 5 v5).set 6 v6).set 7 v7
theorem own_put8 {P base e n:Nat}{w:Ab}{v:Ak}{xs:List Ak} (h:w.ownsRow base e 6 v n xs) (hP:v.ownBlock≠A3 P) (v0 v1 v2 v3 v4 v5 v6 v7:Ak):((((((((w.setCell ⟨P,0,A0⟩ v0).setCell ⟨P,1,A0⟩ v1).setCell ⟨P,2,A0⟩ v2).setCell ⟨P,3,A0⟩ v3).setCell ⟨P,4,A0⟩ v4).setCell ⟨P,5,A0⟩ v5).setCell ⟨P,6,A0⟩ v6).setCell ⟨P,7,A0⟩ v7).ownsRow base e 6 v n xs :=
 EB (EB (EB (EB (EB (EB (EB (EB h hP _) hP _) hP _) hP _) hP _) hP _) hP _) hP _
theorem RRes.two {toks:List Tok}{x:PR}{w w':Ab}{o f a b n:Int}{sa ka:Option Addr}{sn sc kn kc:Nat}{z:Bool} (h:RRes toks x w (.returned (.agg #[.int .i64 o,.int .i64 f,.slice sa sn sc,.int .i64 a,.int .i64 b,.slice ka kn kc,.int .i64 n,.bool z])) w') :
  (z=false/\x=A0)\/(z=true/\∃ q r,x=A3 (q,r)/\n=((toks.length - r.length:Nat):Int)/\QC w.heap.size w' q (encQ ⟨o,f,sa,sn,sc,a,b,ka,kn,kc⟩)):=by
 cases x with
 | none =>
  obtain⟨⟨o2,f2,sa2,sn2,sc2,a2,b2,ka2,kn2,kc2⟩,n2,e,_⟩:=h;simp only[Ending.returned.injEq,Value.agg.injEq,Array.mk.injEq,List.cons.injEq,Value.bool.injEq,and_true]at e;exact .inl ⟨e.2.2.2.2.2.2.2,rfl⟩
 | some p =>
  obtain⟨q,r⟩:=p;obtain⟨⟨o2,f2,sa2,sn2,sc2,a2,b2,ka2,kn2,kc2⟩,e,h2,_⟩:=h;simp only[Ending.returned.injEq,Value.agg.injEq,Array.mk.injEq,List.cons.injEq,Value.bool.injEq,Value.int.injEq,Value.slice.injEq,true_and,and_true]at e;obtain⟨rfl,rfl,⟨rfl,rfl,rfl⟩,rfl,rfl,⟨rfl,rfl,rfl⟩,rfl,rfl⟩:=e;exact .inr ⟨rfl,q,r,rfl,rfl,h2⟩
def next (x:PR) (f:Qy->List Tok->PR):PR:=match x with
 | none=>A0
 | some (q,r)=>f q r
def GS (toks r:List Tok) (base P:Nat) (w:Ab) (own:Option Nat) (X:PR) (F:Nat->List Qy->List Tok->PR) (slack m:Nat) (acc:List Qy) (t:QT) (n:Int) (z:Bool):Prop :=
 (z=false/\X=A0)\/(z=true/\∃ q r1,r1 <:+ toks/\n=((toks.length - r1.length:Nat):Int)/\8*r1.length+slack<=m/\F m (acc++[q]) r1=X/\Hd base P w own q t/\nodesL acc+acc.length+nodes q+1+2*r1.length<=2*r.length)
theorem GS.put8 {toks r:List Tok}{base P:Nat}{w:Ab}{own:Option Nat}{X:PR}{F:Nat->List Qy->List Tok->PR}{slack m:Nat}{acc:List Qy}{t:QT}{n:Int}{z:Bool} (h:GS toks r base P w own X F slack m acc t n z) (v0 v1 v2 v3 v4 v5 v6 v7:Ak):GS toks r base P ((((((((w.setCell ⟨P,0,A0⟩ v0).setCell ⟨P,1,A0⟩ v1).setCell ⟨P,2,A0⟩ v2).setCell ⟨P,3,A0⟩ v3).setCell ⟨P,4,A0⟩ v4).setCell ⟨P,5,A0⟩ v5).setCell ⟨P,6,A0⟩ v6).setCell ⟨P,7,A0⟩ v7) own X F slack m acc t n z:=by
 rcases h with h9 | ⟨h9,q2,r2,a1,a2,a3,a4,a5,a6⟩
 ·exact .inl h9
 ·exact .inr ⟨h9,q2,r2,a1,a2,a3,a4,a5.put8 v0 v1 v2 v3 v4 v5 v6 v7,a6⟩
end Qr
end Go.Proofs.YtlakomilichhnaaGreatDoor
