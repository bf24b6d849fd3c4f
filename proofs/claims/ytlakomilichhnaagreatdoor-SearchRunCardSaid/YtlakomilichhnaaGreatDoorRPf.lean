/- Parts. -/
import Derived.Test.YtlakomilichhnaaGreatDoorROn
import Derived.Test.YtlakomilichhnaaGreatDoorROs
import Derived.Test.YtlakomilichhnaaGreatDoorRPa
import Derived.Test.YtlakomilichhnaaGreatDoorROw
namespace Go.Proofs.YtlakomilichhnaaGreatDoor
set_option maxHeartbeats 3200000
set_option maxRecDepth 100000
open Go.RowKit
open Go renaming Addr->Aq,Calls->Af,World->Ab,cell_later->A4,heap_alloc_new->Ae,maxLen->Ap
open Ix renaming IA->DC,OwnI->Bq,PsA->DT,build->Hw
open Lib renaming hid->J
open List renaming getElem?_eq_getElem->Ai,getElem?_eq_some_iff->Av,getElem?_map->AP,length->Dl,mem_cons->AL,mem_map->BG,mem_singleton->B9,take_length->At
open Nat renaming le_trans->Au,zero_add->Ct,zero_le->Am
open Option renaming none->A0,some->A3
open Proofs.Tryz renaming prog->A8
open Qr renaming parse->BI
open Rc renaming Rd->Ci,RdA->Fy
open RowKit renaming Below->Aa
open RowKit.Below renaming refl->Ah
open Sr renaming ex3->Jr
open Tx renaming blk->A7,blk_later->A6,newb->A9,step->Ac
variable {P:Prop}
namespace Qr
end Qr
namespace Rc
end Rc
namespace Sr
open Rc hiding bys
open Qr
structure Rl (l:List Rd):Prop where
 r:∀ x∈l,Rg x
 n:(l.map (·.id)).Nodup
 len:l.length<=12
theorem Rl.dist {l:List Rd} (h:Rl l):Ix.Dist l:=by
 intro r hr q hq e
 have key:∀ (l:List Rd),(l.map (·.id)).Nodup->r∈l->q∈l->r=q:=by
  intro l
  induction l with
  | nil=>intro _ h1;cases h1
  | cons x t ih =>
   intro hn h1 h2;rw[List.map_cons,List.nodup_cons]at hn;rcases AL.1 h1 with h1 | h1
   ·rcases AL.1 h2 with h2 | h2
    ·rw[h1,h2]
    ·exact absurd (BG.2 ⟨q,h2,by rw[<- e,h1]⟩) hn.1
   ·rcases AL.1 h2 with h2 | h2
    ·exact absurd (BG.2 ⟨r,h1,by rw[e,h2]⟩) hn.1
    ·exact ih hn.2 h1 h2
 exact key l h.n hr hq
theorem gx_build {l:List Rd} (h:Rl l) {T:List Ix.PT} (hT:T.map (·.1)=Hw l) (hl:T.length<=2500000000):Gx T:=by
 have hf:∀ t∈T,∃ r∈l,1<=r.id/\t.1∈Ix.posts r:=fun t ht=>Ix.build_mem (by rw[<- hT];exact BG.2 ⟨t,ht,rfl⟩);refine⟨hl,fun t ht=>?_,fun t ht=>?_,fun t ht=>?_,by rw[hT];exact Ix.bld_asc l _,fun t ht n hn=>?_⟩
 ·obtain⟨r,hr,h1,hp⟩:=hf t ht;obtain⟨_,_,_,h5,_⟩:=Ix.posts_mem.1 hp;exact Au (Ix.terms_ok (h.r r hr).gd _ _ h5).2 oX
 ·obtain⟨r,hr,h1,hp⟩:=hf t ht;obtain⟨_,_,_,_,h6⟩:=Ix.posts_mem.1 hp;rw[h6];have h7:=Ix.places_len (Ix.terms r.fields t.1.fld) t.1.word;have h8:=Ix.terms_len (h.r r hr).mod t.1.fld;omega
 ·obtain⟨r,hr,h1,hp⟩:=hf t ht;obtain⟨_,_,h4,_,_⟩:=Ix.posts_mem.1 hp;have:=(h.r r hr).ids;unfold In64;omega
 ·obtain⟨r,hr,h1,hp⟩:=hf t ht;obtain⟨_,_,_,_,h6⟩:=Ix.posts_mem.1 hp;rw[h6]at hn;have h7:=Ix.places_lt hn;have h8:=Ix.terms_len (h.r r hr).mod t.1.fld;omega
theorem parse_ok {s:ByteArray} (h:(parse s.data.toList).2=0):Rq (parse s.data.toList).1/\Wz 1000000 (parse s.data.toList).1:=by
 by_cases hl:1000<s.size
 ·exfalso;unfold parse at h;rw[if_pos aY]at h;cases h
 ·have hl':¬ 1000<s.data.toList.length:=by rw[<- Lib.size_eq];exact hl
  cases hv:Tx.valid s.data.toList with
  | false =>
   exfalso;unfold parse at h;rw[if_neg hl',if_pos hv]at h;cases h
  | true =>
   have hok:=tokF_ok hl hv;cases hx:pOr true (8*(tokens s.data.toList).length+8) (tokens s.data.toList) with
   | none =>
    exfalso;rw[parse_none hl' hv hx]at h;cases h
   | some z =>
    obtain⟨q,t⟩:=z;cases t with
    | cons t r =>
     exfalso;rw[parse_rest hl' hv hx]at h;cases h
    | nil =>
     have hw:=(wz_all true (8*(tokens s.data.toList).length+8)).1 (tokens s.data.toList) hok.1 q [] hx;rw[parse_end hl' hv hx]at h ⊢;by_cases hr:rightE q=0
     ·rw[if_pos hr];exact⟨rq_right hr,hw⟩
     ·exfalso;rw[if_neg hr]at h;exact hr h
def runL (l:List Rd) (s:By) (by_:Int) (lang:By):List Int:=if (parse s).2=0 then order l (evalQ (Hw l) l (parse s).1) by_ lang else []
end Sr
theorem ytp (h:P:=by
 go_split_ands;have hb9:=zff;go_wp2;go_ret2;exact⟨_,rfl,HO.out,Ac hB hb9⟩):P:=h
theorem yg4 (h:P:=by
 rw[hq]at hc;rw[hE]at he;obtain⟨sa,sc,ka,kc,e9,_⟩:=hc.kids;rw[e9]at he hc;exact⟨sa,sc,ka,kc,he,hc,hb⟩):P:=h
theorem search_Run_c (l:List Ci) (la:Option Aq) (lc:Nat) (s:ByteArray) (by_:Int) (lang:ByteArray) (w:Ab) (hG:G w) (rl:Fy w la lc l) (hR:Sr.Rl l) :
  Af A8 21 #[.slice la l.length lc,.string s,.int .i64 by_,.string lang] w fun e w'=>∃ v,e=.returned (.tuple #[v,.int .i64 (BI s.data.toList).2])/\Bq w' w.heap.size v (Sr.runL l s.data.toList by_ lang.data.toList)/\Aa w.heap.size w w':=by
 obtain⟨q,hq⟩:∃ q,(BI s.data.toList).1=q:=⟨_,rfl⟩;obtain⟨E,hE⟩:=zlr;have hok:=Sr.parse_ok (s:=s)
 have PC:Af A8 54 #[.string s] w fun e w'=>∃ sa sc ka kc,e=.returned (.tuple #[.agg #[.int .i64 q.op,.int .i64 q.fld,.slice sa q.ws.length sc,.int .i64 q.a,.int .i64 q.b,.slice ka q.ks.length kc],.int .i64 E])/\Qr.QC w.heap.size w' q [.int .i64 q.op,.int .i64 q.fld,.slice sa q.ws.length sc,.int .i64 q.a,.int .i64 q.b,.slice ka q.ks.length kc]/\Aa w.heap.size w w':=(Parse_c s w hG).mono fun e w' ⟨t,he,hc,hb⟩=>by
  exact yg4
 have HPC:=J PC;rw[hE];unfold Sr.runL;rw[hq,hE];rw[hq,hE]at hok;clear PC hq hE;by_cases h0:E=0
 ·subst h0;rw[if_pos rfl];obtain⟨hrq,hwz⟩:=hok rfl;obtain⟨R,hRR⟩:∃ R,Sr.evalQ (Hw l) l q=R:=⟨_,rfl⟩;rw[hRR]
  have BC:∀ W',Aa w.heap.size w W'->Af A8 55 #[.slice la l.length lc] W' fun e w'=>∃ a' c' T',e=.returned (.agg #[.slice a' (Dl T') c'])/\DT w' a' c' T'/\Sr.Gx T'/\T'.map (·.1)=Hw l/\Aa W'.heap.size W' w':=fun W' h9 =>
   (ix_Build_c l la lc W' (hG.below h9) (rl.below h9) iK (fun r hr=>(hR.r r hr).mod) (fun r hr=>(hR.r r hr).gd) (fun r hr=>by have:=(hR.r r hr).ids;omega)).mono fun e w' ⟨a',c',T',he,hp,hm,hl,hb⟩=>⟨a',c',T',he,hp,Sr.gx_build hR hm hl,hm,hb⟩
  have EC:∀ W' a' c' T' cs,Aa w.heap.size w W'->DT W' a' c' T'->Sr.Gx T'->T'.map (·.1)=Hw l->Qr.QC w.heap.size W' q cs->Af A8 15 #[.agg #[.slice a' (Dl T') c'],.slice la l.length lc,.agg cs.toArray] W' fun e w'=>∃ ia ic,e=.returned (.slice ia R.length ic)/\DC w' ia ic R/\Aa W'.heap.size W' w':=fun W' a' c' T' cs h9 hp hx hm hc=>by
   have h:=search_Eval_c T' a' c' l la lc w.heap.size q cs W' hp hx (rl.below h9) hR.r hR.dist iK hc hrq hwz;rw[hm,hRR]at h;exact h.mono fun e w' ⟨v,he,ho,hb⟩=>by obtain⟨ia,ic,rfl,hia,_⟩:=Ix.IA.of_own ho rfl;exact⟨ia,ic,he,hia,hb⟩
  have OC:∀ W' ia ic,Aa w.heap.size w W'->DC W' ia ic R->Af A8 17 #[.slice la l.length lc,.slice ia R.length ic,.int .i64 by_,.string lang] W' fun e w'=>∃ v,e=.returned v/\Bq w' W'.heap.size v (Sr.order l R by_ lang.data.toList)/\Aa W'.heap.size W' w':=fun W' ia ic h9 hia=>search_Order_c l la lc R ia ic by_ lang W' (hG.below h9) (rl.below h9) hia hR.r hR.n hR.len;have HBC:=J BC;have HEC:=J EC;have HOC:=J OC;obtain⟨O,hO⟩:=zpm;rw[hO]at HOC;rw[hO];clear BC EC OC hok hrq hwz hRR hO rl hR hG;go_enter Tryz.func21,Tryz.ntmps21;go_wp2_with (go_at_call 54;(with_reducible refine HPC.out.mono ?_);rintro e w1 ⟨sa,sc,ka,kc,rfl,hqc,hb1⟩;have HQC:=J hqc;clear hqc);obtain⟨W,hW,hB1,d0,d1,d2,d3,d4,d5⟩:=zcz;have hB:Aa w.heap.size w W:=Ac hb1 hB1;have hBs:=hB.size;have HQW:=J (HQC.out.later hB1)
  (try rw[hW])
  clear hW
  go_region_held3 (fun w'=>Aa W.heap.size W w'/\w'.cell? ⟨w1.heap.size,0,A0⟩=A3 (.int .i64 q.op)/\w'.cell? ⟨w1.heap.size,1,A0⟩=A3 (.int .i64 q.fld)/\w'.cell? ⟨w1.heap.size,2,A0⟩=A3 (.slice sa q.ws.length sc)/\w'.cell? ⟨w1.heap.size,3,A0⟩=A3 (.int .i64 q.a)/\w'.cell? ⟨w1.heap.size,4,A0⟩=A3 (.int .i64 q.b)/\w'.cell? ⟨w1.heap.size,5,A0⟩=A3 (.slice ka q.ks.length kc))
   (first | exact⟨(Ah _ _).drew,d0,d1,d2,d3,d4,d5⟩ | (go_split_ands;exact⟨Ac ‹_› hbx,by repeat' first | exact A4 hbx ‹_› | constructor⟩))
   (first
    |(go_split_ands;go_at_call 55;((with_reducible refine (HBC.out _ (Ac hB ‹_›)).mono ?_);rintro e wx ⟨a',c',T',rfl,hp,hx,hm,hbx⟩;have HPX:=J hp;have HGX:=J hx;have HMX:=J hm;clear hp hx hm))
    |(go_split_ands;go_at_call 15;((with_reducible refine (HEC.out _ _ _ _ _ (Ac hB ‹_›) HPX.out HGX.out HMX.out (HQW.out.later ‹_›)).mono ?_);rintro e wx ⟨ia,ic,rfl,hia,hbx⟩;have HIA:=J hia;clear hia))
    |(go_split_ands;go_at_call 17;((with_reducible refine (HOC.out _ _ _ (Ac hB ‹_›) HIA.out).mono ?_);rintro e wx ⟨v,rfl,ho,hbx⟩;have hwsz:=(by assumption:Aa W.heap.size W _).size;have HO:=J (Sr.ownI_le ho (Au hBs hwsz));clear ho)))
  exact ytp
 ·rw[if_neg h0];have hne:(E != 0)=true:=bne_iff_ne.2 h0;clear hok rl hR hG;go_enter Tryz.func21,Tryz.ntmps21;go_wp2_with (go_at_call 54;(with_reducible refine HPC.out.mono ?_);rintro e w1 ⟨sa,sc,ka,kc,rfl,hqc,hb1⟩;clear hqc);go_ret2;exact⟨_,rfl,World.ownsRow_nil _ _ _ _,Ac hb1 (A9 _ _)⟩
theorem r22_Run_c (l:List Ci) (la:Option Aq) (lc:Nat) (s:ByteArray) (by_:Int) (lang:ByteArray) (w:Ab) (rl:Fy w la lc l) (hR:Sr.Rl l) :
  Af A8 22 #[.slice la l.length lc,.string s,.int .i64 by_,.string lang] w fun e w'=>∃ v,e=.returned (.tuple #[v,.int .i64 (BI s.data.toList).2])/\Bq w' w.heap.size v (Sr.runL l s.data.toList by_ lang.data.toList)/\Aa w.heap.size w w':=by
 obtain⟨q,hq⟩:∃ q,(BI s.data.toList).1=q:=⟨_,rfl⟩;obtain⟨E,hE⟩:=zlr;have hok:=Sr.parse_ok (s:=s)
 have PC:Af A8 56 #[.string s] w fun e w'=>∃ sa sc ka kc,e=.returned (.tuple #[.agg #[.int .i64 q.op,.int .i64 q.fld,.slice sa q.ws.length sc,.int .i64 q.a,.int .i64 q.b,.slice ka q.ks.length kc],.int .i64 E])/\Qr.QC w.heap.size w' q [.int .i64 q.op,.int .i64 q.fld,.slice sa q.ws.length sc,.int .i64 q.a,.int .i64 q.b,.slice ka q.ks.length kc]/\Aa w.heap.size w w':=(r21_Parse_c s w).mono fun e w' ⟨t,he,hc,hb⟩=>by
  exact yg4
 have HPC:=J PC;rw[hE];unfold Sr.runL;rw[hq,hE];rw[hq,hE]at hok;clear PC hq hE;by_cases h0:E=0
 ·subst h0;rw[if_pos rfl];obtain⟨hrq,hwz⟩:=hok rfl;obtain⟨R,hRR⟩:∃ R,Sr.evalQ (Hw l) l q=R:=⟨_,rfl⟩;rw[hRR]
  have BC:∀ W',Aa w.heap.size w W'->Af A8 27 #[.slice la l.length lc] W' fun e w'=>∃ a' c' T',e=.returned (.agg #[.slice a' (Dl T') c'])/\DT w' a' c' T'/\Sr.Gx T'/\T'.map (·.1)=Hw l/\Aa W'.heap.size W' w':=fun W' h9 =>
   (r20_Build_c l la lc W' (rl.below h9) iK (fun r hr=>(hR.r r hr).mod)).mono fun e w' ⟨a',c',T',he,hp,hm,hl,hb⟩=>⟨a',c',T',he,hp,Sr.gx_build hR hm hl,hm,hb⟩
  have EC:∀ W' a' c' T' cs,Aa w.heap.size w W'->DT W' a' c' T'->Sr.Gx T'->T'.map (·.1)=Hw l->Qr.QC w.heap.size W' q cs->Af A8 16 #[.agg #[.slice a' (Dl T') c'],.slice la l.length lc,.agg cs.toArray] W' fun e w'=>∃ ia ic,e=.returned (.slice ia R.length ic)/\DC w' ia ic R/\Aa W'.heap.size W' w':=fun W' a' c' T' cs h9 hp hx hm hc=>by
   have h:=r22_Eval_c T' a' c' l la lc w.heap.size q cs W' hp hx (rl.below h9) hR.r iK hc hrq;rw[hm,hRR]at h;exact h.mono fun e w' ⟨ia,ic,he,hia,_,hb⟩=>⟨ia,ic,he,hia,hb⟩
  have OC:∀ W' ia ic,Aa w.heap.size w W'->DC W' ia ic R->Af A8 18 #[.slice la l.length lc,.slice ia R.length ic,.int .i64 by_,.string lang] W' fun e w'=>∃ v,e=.returned v/\Bq w' W'.heap.size v (Sr.order l R by_ lang.data.toList)/\Aa W'.heap.size W' w':=fun W' ia ic h9 hia=>r22_Order_c l la lc R ia ic by_ lang W' (rl.below h9) hia hR.r hR.n iK;have HBC:=J BC;have HEC:=J EC;have HOC:=J OC;obtain⟨O,hO⟩:=zpm;rw[hO]at HOC;rw[hO];clear BC EC OC hok hrq hwz hRR hO rl hR;go_enter Tryz.func22,Tryz.ntmps22;go_wp2_with (go_at_call 56;(with_reducible refine HPC.out.mono ?_);rintro e w1 ⟨sa,sc,ka,kc,rfl,hqc,hb1⟩;have HQC:=J hqc;clear hqc);obtain⟨W,hW,hB1,d0,d1,d2,d3,d4,d5⟩:=zcz;have hB:Aa w.heap.size w W:=Ac hb1 hB1;have hBs:=hB.size;have HQW:=J (HQC.out.later hB1)
  (try rw[hW])
  clear hW
  go_region_held3 (fun w'=>Aa W.heap.size W w'/\w'.cell? ⟨w1.heap.size,0,A0⟩=A3 (.int .i64 q.op)/\w'.cell? ⟨w1.heap.size,1,A0⟩=A3 (.int .i64 q.fld)/\w'.cell? ⟨w1.heap.size,2,A0⟩=A3 (.slice sa q.ws.length sc)/\w'.cell? ⟨w1.heap.size,3,A0⟩=A3 (.int .i64 q.a)/\w'.cell? ⟨w1.heap.size,4,A0⟩=A3 (.int .i64 q.b)/\w'.cell? ⟨w1.heap.size,5,A0⟩=A3 (.slice ka q.ks.length kc))
   (first | exact⟨(Ah _ _).drew,d0,d1,d2,d3,d4,d5⟩ | (go_split_ands;exact⟨Ac ‹_› hbx,by repeat' first | exact A4 hbx ‹_› | constructor⟩))
   (first
    |(go_split_ands;go_at_call 27;((with_reducible refine (HBC.out _ (Ac hB ‹_›)).mono ?_);rintro e wx ⟨a',c',T',rfl,hp,hx,hm,hbx⟩;have HPX:=J hp;have HGX:=J hx;have HMX:=J hm;clear hp hx hm))
    |(go_split_ands;go_at_call 16;((with_reducible refine (HEC.out _ _ _ _ _ (Ac hB ‹_›) HPX.out HGX.out HMX.out (HQW.out.later ‹_›)).mono ?_);rintro e wx ⟨ia,ic,rfl,hia,hbx⟩;have HIA:=J hia;clear hia))
    |(go_split_ands;go_at_call 18;((with_reducible refine (HOC.out _ _ _ (Ac hB ‹_›) HIA.out).mono ?_);rintro e wx ⟨v,rfl,ho,hbx⟩;have hwsz:=(by assumption:Aa W.heap.size W _).size;have HO:=J (Sr.ownI_le ho (Au hBs hwsz));clear ho)))
  exact ytp
 ·rw[if_neg h0];have hne:(E != 0)=true:=bne_iff_ne.2 h0;clear hok rl hR;go_enter Tryz.func22,Tryz.ntmps22;go_wp2_with (go_at_call 56;(with_reducible refine HPC.out.mono ?_);rintro e w1 ⟨sa,sc,ka,kc,rfl,hqc,hb1⟩;clear hqc);go_ret2;exact⟨_,rfl,World.ownsRow_nil _ _ _ _,Ac hb1 (A9 _ _)⟩
namespace Sr
theorem lit_fa {α:Type}{enc:α->List Value}{size:Nat} (hs:∀ x,(enc x).length=size) {w:Ab}{b:Nat}{xs:List α}{t:TypeId} (h:w.heap[b]?=A3 (.cells (xs.flatMap enc).toArray t (0,0))) (hl:xs.length<=1000):Br.FA enc size w (A3 ⟨b,0,A0⟩) xs.length xs:=by
 refine⟨Nat.le_refl _,by unfold Ap;omega,b,0,fun _=>⟨rfl,(Array.getElem?_eq_some_iff.1 h).1⟩,fun j i x u hx hu=>?_⟩;rw[Ct,(A7 h).1,List.getElem?_toArray,Br.flat_at enc size hs xs j i x hx QW,hu]
end Sr
theorem sr_runs_c (l:List Ci) (la:Option Aq) (lc:Nat) (s:ByteArray) (by_:Int) (want:List Int) (wa:Option Aq) (wc:Nat) (w:Ab) (hG:G w) (rl:Fy w la lc l) (hR:Sr.Rl l) (hw:DC w wa wc want) (h0:(BI s.data.toList).2=0) (h1:Sr.runL l s.data.toList by_ [101,110,103]=want) :
  Af A8 29 #[.slice la l.length lc,.string s,.int .i64 by_,.slice wa want.length wc] w fun e w'=>e=.returned (.bool true)/\Aa w.heap.size w w':=by
 have RC:=search_Run_c l la lc s by_ ⟨[101,110,103].toArray⟩ w hG rl hR;rw[h0]at RC;have h2:Sr.runL l s.data.toList by_ (⟨[101,110,103].toArray⟩:ByteArray).data.toList=want:=h1;rw[h2]at RC;have HRC:=J RC;have HW:=J hw;clear RC h1 h2 h0 hw hG rl hR;go_enter Tryz.func29,Tryz.ntmps29
 go_wp2_with (first
  |(go_at_call 21;(with_reducible refine HRC.out.mono ?_);rintro e w1 ⟨v,rfl,ho,hb1⟩;obtain⟨va,vc,rfl,hia,_⟩:=zrn;have HIA:=J hia;clear hia ho)
  |(go_at_call 14;(refine (Ints_c want want _ _ _ _ _ HIA.out (HW.out.below hb1)).mono ?_);rintro e w2 ⟨rfl,hb2⟩;rw[decide_eq_true rfl]))
 go_ret;exact⟨rfl,Ac hb1 hb2⟩
namespace Sr
abbrev fT (title:ByteArray):Rc.Fl:=⟨⟨[50,52,53].toArray⟩,⟨[32,32].toArray⟩,[(97,title)],0⟩
abbrev fY (year:ByteArray):Rc.Fl:=⟨⟨[50,54,52].toArray⟩,⟨[32,49].toArray⟩,[(99,year)],0⟩
end Sr
theorem sr_book1_c (id:Int) (title:ByteArray) (w:Ab) :
  Af A8 28 #[.int .i64 id,.string title,.string ⟨#[]⟩] w fun e w'=>∃ fa fc,e=.returned (.agg #[.int .i64 id,.int .i64 3,.int .i64 1,.string ⟨[101,110,103].toArray⟩,.slice fa 1 fc])/\Rc.FldA w' fa fc [Sr.fT title]/\Aa w.heap.size w w':=by
 obtain⟨W,hW⟩:∃ W,(((w.alloc (.cells #[.int .i64 id,.int .i64 3,.int .i64 1,.string ⟨[101,110,103].toArray⟩,.slice (A3 ⟨w.heap.size+1+1,0,A0⟩) 1 1] 51)).alloc (.cells #[.int .u8 97,.string title] 96)).alloc (.cells #[.string ⟨[50,52,53].toArray⟩,.string ⟨[32,32].toArray⟩,.slice (A3 ⟨w.heap.size+1,0,A0⟩) 1 1,.int .i64 0] 84)).alloc (.cells #[.int .i64 id,.int .i64 3,.int .i64 1,.string ⟨[101,110,103].toArray⟩,.slice (A3 ⟨w.heap.size+1+1,0,A0⟩) 1 1] 51)=W:=⟨_,rfl⟩;have hB:Aa w.heap.size w W:=by rw[<- hW];exact (((A9 _ _).alloc oZ _).alloc oW _).alloc oW _
 have KX:W.heap[w.heap.size]?=A3 (.cells #[.int .i64 id,.int .i64 3,.int .i64 1,.string ⟨[101,110,103].toArray⟩,.slice (A3 ⟨w.heap.size+1+1,0,A0⟩) 1 1] 51 (0,0)):=by
  rw[<- hW];exact A6 (Ae w _) (((A9 _ _).alloc oZ _).alloc oZ _)
 have KS:W.heap[w.heap.size+1]?=A3 (.cells #[.int .u8 97,.string title] 96 (0,0)):=by
  rw[<- hW];have h:=Ae (w.alloc (.cells #[.int .i64 id,.int .i64 3,.int .i64 1,.string ⟨[101,110,103].toArray⟩,.slice (A3 ⟨w.heap.size+1+1,0,A0⟩) 1 1] 51)) (.cells #[.int .u8 97,.string title] 96);rw[show (w.alloc (.cells #[.int .i64 id,.int .i64 3,.int .i64 1,.string ⟨[101,110,103].toArray⟩,.slice (A3 ⟨w.heap.size+1+1,0,A0⟩) 1 1] 51)).heap.size=w.heap.size+1 by simp]at h;exact A6 h ((A9 _ _).alloc oZ _)
 have KF:W.heap[w.heap.size+1+1]?=A3 (.cells #[.string ⟨[50,52,53].toArray⟩,.string ⟨[32,32].toArray⟩,.slice (A3 ⟨w.heap.size+1,0,A0⟩) 1 1,.int .i64 0] 84 (0,0)):=by
  rw[<- hW];have h:=Ae ((w.alloc (.cells #[.int .i64 id,.int .i64 3,.int .i64 1,.string ⟨[101,110,103].toArray⟩,.slice (A3 ⟨w.heap.size+1+1,0,A0⟩) 1 1] 51)).alloc (.cells #[.int .u8 97,.string title] 96)) (.cells #[.string ⟨[50,52,53].toArray⟩,.string ⟨[32,32].toArray⟩,.slice (A3 ⟨w.heap.size+1,0,A0⟩) 1 1,.int .i64 0] 84);rw[show ((w.alloc (.cells #[.int .i64 id,.int .i64 3,.int .i64 1,.string ⟨[101,110,103].toArray⟩,.slice (A3 ⟨w.heap.size+1+1,0,A0⟩) 1 1] 51)).alloc (.cells #[.int .u8 97,.string title] 96)).heap.size=w.heap.size+1+1 by simp]at h;exact A6 h (A9 _ _)
 obtain⟨xc,xf,xl⟩:=A7 KX;have HS:=zhy;have HF:=J (Sr.lit_fa (enc:=Rc.encF) Rc.encF_len (xs:=[(Sr.fT title,A3 ⟨w.heap.size+1,0,A0⟩,1)]) KF oZ);go_enter Tryz.func28,Tryz.ntmps28;go_wp2;refine bodyPost_ret (v:=.agg #[.int .i64 id,.int .i64 3,.int .i64 1,.string ⟨[101,110,103].toArray⟩,.slice (A3 ⟨w.heap.size+1+1,0,A0⟩) 1 1]) ?_ rfl ⟨A3 ⟨w.heap.size+1+1,0,A0⟩,1,rfl,?_,?_⟩
 ·have x0:=xc 0;have x1:=xc 1;have x2:=xc 2;have x3:=xc 3;have x4:=xc 4;simp[results,Tryz.results28,go_sem,x0,x1,x2,x3,x4]
 ·exact Rc.FldA.of_fa (T:=[(Sr.fT title,A3 ⟨w.heap.size+1,0,A0⟩,1)]) HF.out (fun t ht=>by rw[B9]at ht;rw[ht];exact HS.out)
 ·exact hB
namespace Sr
theorem lit_fa2 {α:Type}{enc:α->List Value}{size:Nat} (hs:∀ x,(enc x).length=size) {w:Ab}{b c:Nat}{xs:List α}{cs:Array Value}{t:TypeId} (h:w.heap[b]?=A3 (.cells cs t (0,0))) (hc:∀ i,i<xs.length*size->cs[i]?=(xs.flatMap enc)[i]?) (hl:xs.length<=c) (hm:c<=Ap):Br.FA enc size w (A3 ⟨b,0,A0⟩) c xs:=by
 refine⟨hl,hm,b,0,fun _=>⟨rfl,(Array.getElem?_eq_some_iff.1 h).1⟩,fun j i x u hx hu=>?_⟩;have hi:i<size:=by rw[<- hs x];exact (Av.1 hu).1
 have hj:=(Av.1 hx).1
 have hlt:j*size+i<xs.length*size:=by
  have:=Nat.mul_le_mul_right size (show j+1<=xs.length by omega);rw[Nat.succ_mul]at this;omega
 rw[Ct,(A7 h).1,hc _ hlt,Br.flat_at enc size hs xs j i x hx hi,hu]
end Sr
theorem sr_book2_c (id:Int) (title year:ByteArray) (w:Ab) (hy:year.data.toList≠[]) :
  Af A8 28 #[.int .i64 id,.string title,.string year] w fun e w'=>∃ fa fc,e=.returned (.agg #[.int .i64 id,.int .i64 3,.int .i64 1,.string ⟨[101,110,103].toArray⟩,.slice fa 2 fc])/\Rc.FldA w' fa fc [Sr.fT title,Sr.fY year]/\Aa w.heap.size w w':=by
 have hyb:(year.toList == [])=false:=by rw[Lib.toList_data];exact beq_eq_false_iff_ne.2 hy
 obtain⟨c,hc⟩:∃ c,(Question.appendCap 2 1 84).cut (w.tape w.drawn (Question.appendCap 2 1 84))=c:=⟨_,rfl⟩
 have hcb:2<=c/\c<=Ap:=by
  rw[<- hc];show 2<=2+_ % (2 ^ 63 - 2)/\2+_ % (2 ^ 63 - 2)<=Ap;have h9:=Nat.mod_lt (w.tape w.drawn (Question.appendCap 2 1 84)) (show 0<2 ^ 63 - 2 by decide);unfold Ap;omega
 obtain⟨W,hW⟩:∃ W,(((((((w.alloc (.cells #[.int .i64 id,.int .i64 3,.int .i64 1,.string ⟨[101,110,103].toArray⟩,.slice (A3 ⟨w.heap.size+1+1+1+1+1+1,0,A0⟩) 2 c] 51)).alloc (.cells #[.int .u8 97,.string title] 96)).alloc (.cells #[.string ⟨[50,52,53].toArray⟩,.string ⟨[32,32].toArray⟩,.slice (A3 ⟨w.heap.size+1,0,A0⟩) 1 1,.int .i64 0] 84)).alloc (.cells #[.int .i64 id,.int .i64 3,.int .i64 1,.string ⟨[101,110,103].toArray⟩,.slice (A3 ⟨w.heap.size+1+1+1+1+1+1,0,A0⟩) 2 c] 51)).alloc (.cells #[.int .u8 99,.string year] 96)).alloc (.cells #[.string ⟨[50,54,52].toArray⟩,.string ⟨[32,49].toArray⟩,.slice (A3 ⟨w.heap.size+1+1+1+1,0,A0⟩) 1 1,.int .i64 0] 84)).alloc (.cells (#[.string ⟨[50,52,53].toArray⟩,.string ⟨[32,32].toArray⟩,.slice (A3 ⟨w.heap.size+1,0,A0⟩) 1 1,.int .i64 0]++(#[.string ⟨[50,54,52].toArray⟩,.string ⟨[32,49].toArray⟩,.slice (A3 ⟨w.heap.size+1+1+1+1,0,A0⟩) 1 1,.int .i64 0]++Builtin.zeroCells #[.string ⟨#[]⟩,.string ⟨#[]⟩,.slice A0 0 0,.int .i64 0] (c - 2))) 84))=W:=⟨_,rfl⟩;have hB:Aa w.heap.size w W:=by rw[<- hW];exact ((((((((A9 _ _).alloc oZ _).alloc aZ _).alloc aZ _).alloc aZ _).alloc aZ _).alloc aZ _))
 have blkAt:∀ (n:Nat) (w0:Ab) (o:Obj) (k:Nat),w0.heap.size=k->Aa (w0.alloc o).heap.size (w0.alloc o) W->W.heap[k]?=A3 o:=fun n w0 o k hk hb=>by
  rw[<- hk,hb.block _ oZ];exact Ae w0 o
 have KX:W.heap[w.heap.size]?=A3 (.cells #[.int .i64 id,.int .i64 3,.int .i64 1,.string ⟨[101,110,103].toArray⟩,.slice (A3 ⟨w.heap.size+1+1+1+1+1+1,0,A0⟩) 2 c] 51 (0,0)):=blkAt 0 w _ _ oZ (by rw[<- hW];exact (((((((Ah _ _).alloc aZ _).alloc aZ _).alloc aZ _).alloc aZ _).alloc aZ _).alloc aZ _));have KS:W.heap[w.heap.size+1]?=A3 (.cells #[.int .u8 97,.string title] 96 (0,0)):=blkAt 0 (w.alloc (.cells #[.int .i64 id,.int .i64 3,.int .i64 1,.string ⟨[101,110,103].toArray⟩,.slice (A3 ⟨w.heap.size+1+1+1+1+1+1,0,A0⟩) 2 c] 51)) _ _ oZ (by rw[<- hW];exact ((((((Ah _ _).alloc aZ _).alloc aZ _).alloc aZ _).alloc aZ _).alloc aZ _));have KS2:W.heap[w.heap.size+1+1+1+1]?=A3 (.cells #[.int .u8 99,.string year] 96 (0,0)):=blkAt 0 ((((w.alloc (.cells #[.int .i64 id,.int .i64 3,.int .i64 1,.string ⟨[101,110,103].toArray⟩,.slice (A3 ⟨w.heap.size+1+1+1+1+1+1,0,A0⟩) 2 c] 51)).alloc (.cells #[.int .u8 97,.string title] 96)).alloc (.cells #[.string ⟨[50,52,53].toArray⟩,.string ⟨[32,32].toArray⟩,.slice (A3 ⟨w.heap.size+1,0,A0⟩) 1 1,.int .i64 0] 84)).alloc (.cells #[.int .i64 id,.int .i64 3,.int .i64 1,.string ⟨[101,110,103].toArray⟩,.slice (A3 ⟨w.heap.size+1+1+1+1+1+1,0,A0⟩) 2 c] 51)) _ _ oZ (by rw[<- hW];exact (((Ah _ _).alloc aZ _).alloc aZ _));have KA:W.heap[w.heap.size+1+1+1+1+1+1]?=A3 (.cells (#[.string ⟨[50,52,53].toArray⟩,.string ⟨[32,32].toArray⟩,.slice (A3 ⟨w.heap.size+1,0,A0⟩) 1 1,.int .i64 0]++(#[.string ⟨[50,54,52].toArray⟩,.string ⟨[32,49].toArray⟩,.slice (A3 ⟨w.heap.size+1+1+1+1,0,A0⟩) 1 1,.int .i64 0]++Builtin.zeroCells #[.string ⟨#[]⟩,.string ⟨#[]⟩,.slice A0 0 0,.int .i64 0] (c - 2))) 84 (0,0)):=blkAt 0 ((((((w.alloc (.cells #[.int .i64 id,.int .i64 3,.int .i64 1,.string ⟨[101,110,103].toArray⟩,.slice (A3 ⟨w.heap.size+1+1+1+1+1+1,0,A0⟩) 2 c] 51)).alloc (.cells #[.int .u8 97,.string title] 96)).alloc (.cells #[.string ⟨[50,52,53].toArray⟩,.string ⟨[32,32].toArray⟩,.slice (A3 ⟨w.heap.size+1,0,A0⟩) 1 1,.int .i64 0] 84)).alloc (.cells #[.int .i64 id,.int .i64 3,.int .i64 1,.string ⟨[101,110,103].toArray⟩,.slice (A3 ⟨w.heap.size+1+1+1+1+1+1,0,A0⟩) 2 c] 51)).alloc (.cells #[.int .u8 99,.string year] 96)).alloc (.cells #[.string ⟨[50,54,52].toArray⟩,.string ⟨[32,49].toArray⟩,.slice (A3 ⟨w.heap.size+1+1+1+1,0,A0⟩) 1 1,.int .i64 0] 84)) _ _ oZ (by rw[<- hW];exact (Ah _ _));clear blkAt;obtain⟨xc,xf,xl⟩:=A7 KX;have HS:=zhy;have HS2:=J (Rc.SubA.of_fa (Sr.lit_fa Rc.encS_len (xs:=[(99,year)]) KS2 oZ))
 have HF:=J (Sr.lit_fa2 (enc:=Rc.encF) Rc.encF_len (c:=c) (xs:=[(Sr.fT title,A3 ⟨w.heap.size+1,0,A0⟩,1),(Sr.fY year,A3 ⟨w.heap.size+1+1+1+1,0,A0⟩,1)]) KA (fun i hi=>by
  have hi8:i<8:=hi;rcases (by omega:i=0\/i=1\/i=2\/i=3\/i=4\/i=5\/i=6\/i=7) with rfl | rfl | rfl | rfl | rfl | rfl | rfl | rfl <;> simp[Array.getElem?_append]) hcb.1 hcb.2)
 have hbd:Aa W.heap.size W W.drew:=(Ah _ _).drew;clear KS KS2 KA;go_enter Tryz.func28,Tryz.ntmps28;go_wp2;refine bodyPost_ret (v:=.agg #[.int .i64 id,.int .i64 3,.int .i64 1,.string ⟨[101,110,103].toArray⟩,.slice (A3 ⟨w.heap.size+1+1+1+1+1+1,0,A0⟩) 2 c]) ?_ rfl ⟨A3 ⟨w.heap.size+1+1+1+1+1+1,0,A0⟩,c,rfl,?_,?_⟩
 ·have x0:=A4 hbd (xc 0);have x1:=A4 hbd (xc 1);have x2:=A4 hbd (xc 2);have x3:=A4 hbd (xc 3);have x4:=A4 hbd (xc 4);simp[results,Tryz.results28,go_sem,x0,x1,x2,x3,x4]
 ·exact Rc.FldA.of_fa (T:=[(Sr.fT title,A3 ⟨w.heap.size+1,0,A0⟩,1),(Sr.fY year,A3 ⟨w.heap.size+1+1+1+1,0,A0⟩,1)]) (HF.out.below hbd) (fun t ht=>by
   rcases AL.1 ht with rfl | ht
   ·exact HS.out.below hbd
   ·rw[B9]at ht;rw[ht];exact HS2.out.below hbd)
 ·exact Ac hB hbd
namespace Rc
def smallRs (rs:List Rd) (n:Int):Bool:=decide ((rs.length:Int)<=n/\∀ r∈rs,smallR r.fields=true)
theorem smallRs_of {rs:List Rd}{n:Int} (h:smallRs rs n=true):(rs.length:Int)<=n/\∀ r∈rs,smallR r.fields=true:=of_decide_eq_true h
end Rc
theorem SmallRecords_c (rs:List Ci) (a:Option Aq) (c:Nat) (n:Int) (w:Ab) (h:Fy w a c rs) :
  Af A8 30 #[.slice a rs.length c,.int .i64 n] w fun e w'=>e=.returned (.bool (Rc.smallRs rs n))/\Aa w.heap.size w w':=by
 have hmx:Ap=9223372036854775807:=rfl;have hcap:=h.cap;have hmax:=h.max;by_cases hl:(rs.length:Int)<=n
 ·go_enter Tryz.func30,Tryz.ntmps30;go_wp2;go_loopw [5] (fun i wr=>∃ k:Nat,k<=rs.length/\i=.int .i64 k/\Hid (∀ r∈rs.take k,Rc.smallR r.fields=true)/\Aa w.heap.size w wr) (fun i _=>rs.length - (intOf i).toNat)
  case atStart=>exact⟨0,Am _,rfl,J oZ,Ah _ _⟩
  case round =>
   obtain⟨k,hk,rfl,hI,hb⟩:=hrel;by_cases hlt:k<rs.length
   ·obtain⟨r,hr⟩:=ziq;obtain⟨b1,o1,sa,sc,rfl,_,c0,c1,c2,c3,c4,hs1⟩:=h.get hr;replace c0:=A4 hb c0;replace c1:=A4 hb c1;replace c2:=A4 hb c2;replace c3:=A4 hb c3;replace c4:=A4 hb c4;have HX:=J (hs1.below hb);cases hq:Rc.smallR r.fields with
    | true =>
     have hI2:Hid (∀ r∈rs.take (k+1),Rc.smallR r.fields=true):=J (Rc.all_take hr hq hI.out);have HQ:=J hq;clear hq hr hs1;go_wp2_with (go_at_call 23;refine (Small_c r.fields sa sc r.id r.ver r.kind r.lang _ HX.out).mono ?_;rintro e w1 ⟨rfl,hb1⟩;rw[HQ.out]);go_roundw
     case rel=>exact⟨k+1,oQ,by go_num,hI2,Ac hb hb1⟩
     case measure=>simp[intOf];omega
    | false =>
     have hf:Hid (Rc.smallRs rs n=false):=J (decide_eq_false fun h9=>by
      have:=h9.2 r (List.mem_of_getElem? hr);rw[hq]at this;cases this)
     have HQ:=J hq;clear hq hr hs1;go_wp2_with (go_at_call 23;refine (Small_c r.fields sa sc r.id r.ver r.kind r.lang _ HX.out).mono ?_;rintro e w1 ⟨rfl,hb1⟩;rw[HQ.out]);go_ret;exact⟨Tx.retb hf.out.symm,Ac hb hb1⟩
   ·obtain rfl:k=rs.length:=oQ;have ht:Hid (Rc.smallRs rs n=true):=J (decide_eq_true ⟨hl,by have:=hI.out;rwa [At]at this⟩);go_wp2;go_ret;exact⟨Tx.retb ht.out.symm,hb⟩
 ·have hf:Hid (Rc.smallRs rs n=false):=J (decide_eq_false fun h9=>hl h9.1);have hgt:n<(rs.length:Int):=oQ;clear hl;go_enter Tryz.func30,Tryz.ntmps30;go_wp2;go_ret;exact⟨Tx.retb hf.out.symm,Ah _ _⟩
namespace Sr
abbrev ids (rs:List Ci):List Int:=rs.map (·.id)
theorem ids_take {rs:List Ci}{k:Nat}{x:Ci} (h:rs[k]?=A3 x):ids (rs.take (k+1))=ids (rs.take k)++[x.id]:=by
 unfold ids;rw[List.take_add_one,h,List.map_append];rfl
theorem nodup_snoc {l:List Int}{x:Int} (h1:l.Nodup) (h2:∀ y∈l,y≠x):(l++[x]).Nodup:=by
 rw[List.nodup_append];refine⟨h1,oZ,fun a ha b hb=>?_⟩;rw[B9]at hb;rw[hb];exact h2 a ha
theorem not_nodup {rs:List Ci}{i j:Nat}{x y:Ci} (h1:rs[i]?=A3 x) (h2:rs[j]?=A3 y) (hlt:j<i) (h:x.id=y.id):¬ (ids rs).Nodup:=by
 intro hn;have hi:(ids rs)[i]?=A3 x.id:=by unfold ids;rw[AP,h1];rfl
 have hj:(ids rs)[j]?=A3 y.id:=by unfold ids;rw[AP,h2];rfl
 obtain⟨hi1,hi2⟩:=Av.1 hi;obtain⟨hj1,hj2⟩:=Av.1 hj;have:=(List.nodup_iff_pairwise_ne.1 hn);have:=List.pairwise_iff_getElem.1 this j i hj1 hi1 hlt;exact this (by rw[hi2,hj2,h])
open Rc
def RightP (l:List Rd):Prop:=smallRs l 8=true/\(∀ r∈l,recE r=0/\r.id≠0)/\(ids l).Nodup
theorem RightP.rl {l:List Rd} (h:RightP l):Rl l:=by
 obtain⟨h1,h2,h3⟩:=h;obtain⟨h4,h5⟩:=smallRs_of h1;exact⟨fun r hr=>rg_of (h5 r hr) (h2 r hr).1,h3,oQ⟩
end Sr
theorem r22_Right_c (rs:List Ci) (a:Option Aq) (c:Nat) (w:Ab) (h:Fy w a c rs) :
  Af A8 11 #[.slice a rs.length c] w fun e w'=>∃ b:Bool,e=.returned (.bool b)/\(b=true↔Sr.RightP rs)/\Aa w.heap.size w w':=by
 have hml:Ap=9223372036854775807:=rfl;have hcap:=h.cap;have hmax:=h.max;have HS:=zkq;have SC:=SmallRecords_c rs a c 8 w h;clear h;cases hs:Rc.smallRs rs 8 with
 | false =>
  rw[hs]at SC;have HF:Hid (¬ Sr.RightP rs):=J (fun h=>by rw[h.1]at hs;cases hs);have HSC:=J SC;clear SC hs;go_enter Tryz.func11,Tryz.ntmps11;go_wp2_with (go_at_call 30;(with_reducible refine HSC.out.mono ?_);rintro e w1 ⟨rfl,hb1⟩);go_ret;exact⟨false,rfl,⟨fun h=>(by cases h),fun h=>absurd h HF.out⟩,hb1⟩
 | true =>
  rw[hs]at SC;have HSM:=J (Rc.smallRs_of hs).2;have HSB:=J hs;have HSC:=J SC;clear SC hs;go_enter Tryz.func11,Tryz.ntmps11;go_wp2_with (go_at_call 30;(with_reducible refine HSC.out.mono ?_);rintro e w1 ⟨rfl,hb1⟩);go_loopw [3] (fun i wr=>∃ (k:Nat),k<=rs.length/\i=.int .i64 k/\Hid ((∀ r∈rs.take k,Rc.recE r=0/\r.id≠0)/\(Sr.ids (rs.take k)).Nodup)/\Aa w.heap.size w wr) (fun i _=>rs.length - (intOf i).toNat)
  case atStart=>exact⟨0,Am _,rfl,J oZ,hb1⟩
  case round =>
   obtain⟨k,hk,rfl,hI,hb⟩:=hrel;by_cases hlt:k<rs.length
   ·obtain⟨x,hx⟩:∃ x,rs[k]?=A3 x:=⟨_,Ai hlt⟩;obtain⟨b,o,fa,fc,rfl,hbl,x0,x1,x2,x3,x4,hfx⟩:=HS.out.get hx;replace x0:=A4 hb x0;replace x1:=A4 hb x1;replace x2:=A4 hb x2;replace x3:=A4 hb x3;replace x4:=A4 hb x4;have hxm:=zgk;have hsm:=HSM.out x hxm
    have RC:=r08_Right_c x.fields fa fc x.id x.ver x.kind x.lang wr (hfx.below hb) (fun f hf y hy=>by
     unfold Rc.smallR at hsm;rw[decide_eq_true_eq]at hsm;have h2:=hsm.2 f hf;unfold Rc.smallF at h2;rw[decide_eq_true_eq]at h2;exact Au (h2.2 y hy) oX)
    obtain⟨E,hE⟩:∃ E,Rc.recE x=E:=⟨_,rfl⟩;rw[show Rc.recE ⟨x.id,x.ver,x.kind,x.lang,x.fields⟩=E from hE]at RC;have HRC:=J RC;have HXM:=J hxm;clear RC hsm hfx hxm;by_cases hE0:E=0
    ·have hne:(E != 0)=false:=by rw[hE0];rfl
     by_cases hid0:x.id=0
     ·have hi0:(x.id == 0)=true:=beq_iff_eq.2 hid0;have HF:Hid (¬ Sr.RightP rs):=J (fun h=>(h.2.1 x HXM.out).2 hid0);clear hE hE0 hx hid0;go_wp2_with (go_at_call 24;(with_reducible refine HRC.out.mono ?_);rintro e w2 ⟨rfl,hb2⟩;have y0:=A4 hb2 x0);go_ret;exact⟨false,rfl,⟨fun h=>(by cases h),fun h=>absurd h HF.out⟩,Ac hb hb2⟩
     ·have hi0:(x.id == 0)=false:=beq_eq_false_iff_ne.2 hid0;have HOK:Hid (Rc.recE x=0/\x.id≠0):=J ⟨by rw[hE,hE0],hid0⟩;have HX:=J hx;clear hE hE0 hid0 hx;go_wp2_with (go_at_call 24;(with_reducible refine HRC.out.mono ?_);rintro e w2 ⟨rfl,hb2⟩;have y0':=A4 hb2 x0);have hbo:=Ac hb hb2;clear hb x0 x1 x2 x3 x4;obtain⟨wo,hwo⟩:∃ wo,wo=w2:=⟨_,rfl⟩;subst hwo;have x0:=y0';clear y0' hb2;go_loopw [4] (fun i wr=>∃ (j:Nat),j<=k/\i=.int .i64 j/\Hid (∀ y∈Sr.ids (rs.take j),y≠x.id)/\Aa wo.heap.size wo wr) (fun i _=>k - (intOf i).toNat)
      case atStart=>exact⟨0,Am _,rfl,J oZ,Ah _ _⟩
      case round =>
       obtain⟨j,hj,rfl,hJ,hb2⟩:=hrel;replace x0:=A4 hb2 x0;by_cases hjl:j<k
       ·obtain⟨y,hy⟩:∃ y,rs[j]?=A3 y:=⟨_,Ai oQ⟩;obtain⟨b2,o2,fa2,fc2,e2,_,y0,y1,y2,y3,y4,hfy⟩:=zkd;injection e2 with e2;injection e2 with e2 e3;subst e2 e3;replace y0:=A4 hb2 (A4 hbo y0);clear y1 y2 y3 y4 hfy;have hjr:j<rs.length:=oQ;by_cases hxy:x.id=y.id
        ·have HM:Hid (¬ Sr.RightP rs):=J (fun h=>Sr.not_nodup HX.out hy hjl hxy h.2.2);have hq:(x.id == y.id)=true:=by rw[hxy];exact beq_self_eq_true _
         clear hxy hy;go_wp2;go_quiet (fail);have hbq:=zgj;generalize wr.drewN nq=w5 at hbq ⊢;go_wp2;go_ret;exact⟨false,rfl,⟨fun h=>(by cases h),fun h=>absurd h HM.out⟩,Ac (Ac hbo hb2) hbq⟩
        ·have HN:Hid (∀ z∈Sr.ids (rs.take (j+1)),z≠x.id):=J (fun z hz=>by
          rw[Sr.ids_take hy]at hz;rcases List.mem_append.1 hz with h1 | h1
          ·exact hJ.out z h1
          ·rw[B9]at h1;rw[h1];exact fun e=>hxy e.symm)
         have hq:(x.id == y.id)=false:=beq_eq_false_iff_ne.2 hxy;clear hxy hy hJ;go_wp2;go_quiet (fail);have hbq:=zgj;generalize wr.drewN nq=w5 at hbq ⊢;go_wp2;go_roundw
         case rel=>exact⟨j+1,hjl,by go_num,HN,Ac hb2 hbq⟩
         case measure=>simp[intOf];omega
       ·obtain rfl:j=k:=oQ;have HN:Hid ((∀ r∈rs.take (j+1),Rc.recE r=0/\r.id≠0)/\(Sr.ids (rs.take (j+1))).Nodup):=J ⟨Rc.all_take HX.out HOK.out hI.out.1,by rw[Sr.ids_take HX.out];exact Sr.nodup_snoc hI.out.2 hJ.out⟩;clear hI hJ;go_wp2;go_roundw
        case rel=>exact⟨j+1,hlt,by go_num,HN,Ac hbo hb2⟩
        case measure=>simp[intOf];omega
    ·have hne:(E != 0)=true:=bne_iff_ne.2 hE0;have HF:Hid (¬ Sr.RightP rs):=J (fun h=>hE0 (by rw[<- hE];exact (h.2.1 x HXM.out).1));clear hE hE0 hx;go_wp2_with (go_at_call 24;(with_reducible refine HRC.out.mono ?_);rintro e w2 ⟨rfl,hb2⟩);go_ret;exact⟨false,rfl,⟨fun h=>(by cases h),fun h=>absurd h HF.out⟩,Ac hb hb2⟩
   ·obtain rfl:k=rs.length:=oQ
    have HM:Hid (Sr.RightP rs):=J (by
     have:=hI.out;rw[At]at this;exact⟨HSB.out,this.1,this.2⟩)
    go_wp2;go_ret;exact⟨true,rfl,⟨fun _=>HM.out,fun _=>rfl⟩,hb⟩
namespace Sr
open Rc hiding bys
open Qr
theorem ex_rl:Rl ex3:=by
 refine⟨fun r hr=>?_,oX,oX⟩
 have hr2:r=book 1 [84,104,101,32,68,111,103,115] [49,57,57,56]\/r=book 2 [67,97,116,115] [50,48,48,49]\/r=book 3 [68,111,103,115,32,97,110,100,32,67,97,116,115] []:=by
  unfold ex3 at hr;simpa using hr
 rcases hr2 with rfl | rfl | rfl
 ·exact rg_of oJ oJ
 ·exact rg_of oJ oJ
 ·exact rg_of oJ oJ
theorem runL_ex {s:By}{q:Qy} (hp:parse s=(q,0)) (by_:Int):runL ex3 s by_ [101,110,103]=exFind q by_:=by
 unfold runL;rw[hp];rfl
theorem lit_ints {w:Ab}{b:Nat}{xs:List Int} (h:w.heap[b]?=A3 (.cells (xs.map (Value.int .i64)).toArray 3 (0,0))) (hl:xs.length<=1000):DC w (A3 ⟨b,0,A0⟩) xs.length xs :=
 lit_fa (enc:=fun x:Int=>[Value.int .i64 x]) (size:=1) (fun _=>rfl) (by rw[Ix.flat_int];exact h) hl
theorem lit1 (w:Ab) (a:Int):DC (w.alloc (.cells #[.int .i64 a] 3)) (A3 ⟨w.heap.size,0,A0⟩) 1 [a]:=lit_ints (xs:=[a]) (Ae _ _) oZ
theorem lit2 (w:Ab) (a b:Int):DC (w.alloc (.cells #[.int .i64 a,.int .i64 b] 3)) (A3 ⟨w.heap.size,0,A0⟩) 2 [a,b]:=lit_ints (xs:=[a,b]) (Ae _ _) oZ
theorem lit3 (w:Ab) (a b c:Int):DC (w.alloc (.cells #[.int .i64 a,.int .i64 b,.int .i64 c] 3)) (A3 ⟨w.heap.size,0,A0⟩) 3 [a,b,c]:=lit_ints (xs:=[a,b,c]) (Ae _ _) oZ
theorem page_ex1:page [5,6,7] 1 5=[6,7]:=oX
theorem page_ex2:page [5,6,7] (-1) 1=[5]:=oX
end Sr
theorem sr_ex_run0 (la:Option Aq) (lc:Nat) (w:Ab) (hG:G w) (rl:Fy w la lc Jr) :
  Af A8 21 #[.slice la 3 lc,.string ⟨[40].toArray⟩,.int .i64 0,.string ⟨[101,110,103].toArray⟩] w fun e w'=>∃ v,e=.returned (.tuple #[v,.int .i64 3])/\Aa w.heap.size w w':=by
 have h:=search_Run_c Jr la lc ⟨[40].toArray⟩ 0 ⟨[101,110,103].toArray⟩ w hG rl Sr.ex_rl;have e:(BI (⟨[40].toArray⟩:ByteArray).data.toList).2=3:=Sr.ex_parse5;rw[e,show Sr.ex3.length=3 from rfl]at h;exact h.mono fun e w' ⟨v,he,_,hb⟩=>⟨v,he,hb⟩
theorem sr_ex_runs1 (la:Option Aq) (lc:Nat) (wa:Option Aq) (wc:Nat) (w:Ab) (hG:G w) (rl:Fy w la lc Jr) (hw:DC w wa wc [1,3]) :
  Af A8 29 #[.slice la 3 lc,.string ⟨[100,111,103,115].toArray⟩,.int .i64 0,.slice wa 2 wc] w fun e w'=>e=.returned (.bool true)/\Aa w.heap.size w w':=by
 have e0:BI (⟨[100,111,103,115].toArray⟩:ByteArray).data.toList=_:=Sr.ex_parse1;have h:=sr_runs_c Jr la lc ⟨[100,111,103,115].toArray⟩ 0 [1,3] wa wc w hG rl Sr.ex_rl hw uV ((Sr.runL_ex e0 0).trans Sr.ex_find1);rw[show Sr.ex3.length=3 from rfl]at h;exact h
theorem sr_ex_runs2 (la:Option Aq) (lc:Nat) (wa:Option Aq) (wc:Nat) (w:Ab) (hG:G w) (rl:Fy w la lc Jr) (hw:DC w wa wc [1,3]) :
  Af A8 29 #[.slice la 3 lc,.string ⟨[100,111,103,115].toArray⟩,.int .i64 1,.slice wa 2 wc] w fun e w'=>e=.returned (.bool true)/\Aa w.heap.size w w':=by
 have e0:BI (⟨[100,111,103,115].toArray⟩:ByteArray).data.toList=_:=Sr.ex_parse1;have h:=sr_runs_c Jr la lc ⟨[100,111,103,115].toArray⟩ 1 [1,3] wa wc w hG rl Sr.ex_rl hw uV ((Sr.runL_ex e0 1).trans Sr.ex_find2);rw[show Sr.ex3.length=3 from rfl]at h;exact h
theorem sr_ex_runs3 (la:Option Aq) (lc:Nat) (wa:Option Aq) (wc:Nat) (w:Ab) (hG:G w) (rl:Fy w la lc Jr) (hw:DC w wa wc [2,3]) :
  Af A8 29 #[.slice la 3 lc,.string ⟨[99,97,116,115].toArray⟩,.int .i64 1,.slice wa 2 wc] w fun e w'=>e=.returned (.bool true)/\Aa w.heap.size w w':=by
 have e0:BI (⟨[99,97,116,115].toArray⟩:ByteArray).data.toList=_:=Sr.ex_parse2;have h:=sr_runs_c Jr la lc ⟨[99,97,116,115].toArray⟩ 1 [2,3] wa wc w hG rl Sr.ex_rl hw uV ((Sr.runL_ex e0 1).trans Sr.ex_find3);rw[show Sr.ex3.length=3 from rfl]at h;exact h
theorem sr_ex_runs4 (la:Option Aq) (lc:Nat) (wa:Option Aq) (wc:Nat) (w:Ab) (hG:G w) (rl:Fy w la lc Jr) (hw:DC w wa wc [2,1]) :
  Af A8 29 #[.slice la 3 lc,.string ⟨[121,101,97,114,58,49,57,57,48,45,50,48,48,53].toArray⟩,.int .i64 3,.slice wa 2 wc] w fun e w'=>e=.returned (.bool true)/\Aa w.heap.size w w':=by
 have e0:BI (⟨[121,101,97,114,58,49,57,57,48,45,50,48,48,53].toArray⟩:ByteArray).data.toList=_:=Sr.ex_parse3;have h:=sr_runs_c Jr la lc ⟨[121,101,97,114,58,49,57,57,48,45,50,48,48,53].toArray⟩ 3 [2,1] wa wc w hG rl Sr.ex_rl hw uV ((Sr.runL_ex e0 3).trans Sr.ex_find4);rw[show Sr.ex3.length=3 from rfl]at h;exact h
theorem sr_ex_runs5 (la:Option Aq) (lc:Nat) (wa:Option Aq) (wc:Nat) (w:Ab) (hG:G w) (rl:Fy w la lc Jr) (hw:DC w wa wc [1]) :
  Af A8 29 #[.slice la 3 lc,.string ⟨[100,111,103,115,32,78,79,84,32,99,97,116,115].toArray⟩,.int .i64 0,.slice wa 1 wc] w fun e w'=>e=.returned (.bool true)/\Aa w.heap.size w w':=by
 have e0:BI (⟨[100,111,103,115,32,78,79,84,32,99,97,116,115].toArray⟩:ByteArray).data.toList=_:=Sr.ex_parse4;have h:=sr_runs_c Jr la lc ⟨[100,111,103,115,32,78,79,84,32,99,97,116,115].toArray⟩ 0 [1] wa wc w hG rl Sr.ex_rl hw uV ((Sr.runL_ex e0 0).trans Sr.ex_find5);rw[show Sr.ex3.length=3 from rfl]at h;exact h
theorem yog (h:P:=by
 exact h1.mono fun e w' ⟨v,he,ho,hb⟩=>by
  obtain⟨pa,pc,rfl,hia,_⟩:=zrn;exact⟨pa,pc,he,hia,hb⟩):P:=h
theorem sr_ex_page1 (a:Option Aq) (c:Nat) (w:Ab) (h:DC w a c [5,6,7]):Af A8 19 #[.slice a 3 c,.int .i64 1,.int .i64 5] w fun e w'=>∃ pa pc,e=.returned (.slice pa 2 pc)/\DC w' pa pc [6,7]/\Aa w.heap.size w w':=by
 have h1:=search_Page_c [5,6,7] a c 1 5 w h oX;rw[Sr.page_ex1]at h1;exact yog
theorem sr_ex_ints1 (a b:Option Aq) (c d:Nat) (w:Ab) (hx:DC w a c [6,7]) (hy:DC w b d [6,7]):Af A8 14 #[.slice a 2 c,.slice b 2 d] w fun e w'=>e=.returned (.bool true)/\Aa w.heap.size w w':=by
 have h:=Ints_c [6,7] [6,7] a b c d w hx hy;rw[decide_eq_true rfl]at h;exact h
theorem sr_ex_page2 (a:Option Aq) (c:Nat) (w:Ab) (h:DC w a c [5,6,7]):Af A8 19 #[.slice a 3 c,.int .i64 (-1),.int .i64 1] w fun e w'=>∃ pa pc,e=.returned (.slice pa 1 pc)/\DC w' pa pc [5]/\Aa w.heap.size w w':=by
 have h1:=search_Page_c [5,6,7] a c (-1) 1 w h oX;rw[Sr.page_ex2]at h1;exact yog
theorem sr_ex_ints2 (a b:Option Aq) (c d:Nat) (w:Ab) (hx:DC w a c [5]) (hy:DC w b d [5]):Af A8 14 #[.slice a 1 c,.slice b 1 d] w fun e w'=>e=.returned (.bool true)/\Aa w.heap.size w w':=by
 have h:=Ints_c [5] [5] a b c d w hx hy;rw[decide_eq_true rfl]at h;exact h
theorem sr_alive_c (w:Ab) (hG:G w):Af A8 10 #[] w fun e w'=>e=.returned (.bool true)/\Aa w.heap.size w w':=by
 have HG:=J hG;clear hG;go_enter Tryz.func10,Tryz.ntmps10
 go_wp2_with (first
  |(go_at_call 14;(with_reducible refine (sr_ex_ints2 _ _ _ _ _ (HP2.out.below (A9 _ _)) (Sr.lit1 _ 5)).mono ?_);rintro e z2 ⟨rfl,hq⟩;have HZ2:=J (Ac (HW2.out.alloc HW2.out.size _) hq);clear hq)
  |(go_at_call 19;(with_reducible refine (sr_ex_page2 _ _ _ (Sr.lit3 _ 5 6 7)).mono ?_);rintro e p2 ⟨pa2,pc2,rfl,hia,hq⟩;have HP2:=J hia;have HW2:=J (Ac (HZ1.out.alloc HZ1.out.size _) hq);clear hia hq)
  |(go_at_call 14;(with_reducible refine (sr_ex_ints1 _ _ _ _ _ (HP1.out.below (A9 _ _)) (Sr.lit2 _ 6 7)).mono ?_);rintro e z1 ⟨rfl,hq⟩;have HZ1:=J (Ac (HW1.out.alloc HW1.out.size _) hq);clear hq)
  |(go_at_call 19;(with_reducible refine (sr_ex_page1 _ _ _ (Sr.lit3 _ 5 6 7)).mono ?_);rintro e p1 ⟨pa1,pc1,rfl,hia,hq⟩;have HP1:=J hia;have HW1:=J (Ac (HV5.out.alloc HV5.out.size _) hq);clear hia hq)
  |(go_at_call 29;(with_reducible refine (sr_ex_runs5 _ _ _ _ _ (HG.out.below (Ac HBW.out (HV4.out.alloc HV4.out.size _))) (HRL.out.below (HV4.out.alloc HV4.out.size _)) (Sr.lit1 _ 1)).mono ?_);rintro e v5 ⟨rfl,hq⟩;have HV5:=J (Ac (HV4.out.alloc HV4.out.size _) hq);clear hq)
  |(go_at_call 29;(with_reducible refine (sr_ex_runs4 _ _ _ _ _ (HG.out.below (Ac HBW.out (HV3.out.alloc HV3.out.size _))) (HRL.out.below (HV3.out.alloc HV3.out.size _)) (Sr.lit2 _ 2 1)).mono ?_);rintro e v4 ⟨rfl,hq⟩;have HV4:=J (Ac (HV3.out.alloc HV3.out.size _) hq);clear hq)
  |(go_at_call 29;(with_reducible refine (sr_ex_runs3 _ _ _ _ _ (HG.out.below (Ac HBW.out (HV2.out.alloc HV2.out.size _))) (HRL.out.below (HV2.out.alloc HV2.out.size _)) (Sr.lit2 _ 2 3)).mono ?_);rintro e v3 ⟨rfl,hq⟩;have HV3:=J (Ac (HV2.out.alloc HV2.out.size _) hq);clear hq)
  |(go_at_call 29;(with_reducible refine (sr_ex_runs2 _ _ _ _ _ (HG.out.below (Ac HBW.out (HV1.out.alloc HV1.out.size _))) (HRL.out.below (HV1.out.alloc HV1.out.size _)) (Sr.lit2 _ 1 3)).mono ?_);rintro e v2 ⟨rfl,hq⟩;have HV2:=J (Ac (HV1.out.alloc HV1.out.size _) hq);clear hq)
  |(go_at_call 29;(with_reducible refine (sr_ex_runs1 _ _ _ _ _ (HG.out.below (Ac HBW.out (HV0.out.alloc HV0.out.size _))) (HRL.out.below (HV0.out.alloc HV0.out.size _)) (Sr.lit2 _ 1 3)).mono ?_);rintro e v1 ⟨rfl,hq⟩;have HV1:=J (Ac (HV0.out.alloc HV0.out.size _) hq);clear hq)
  |(go_at_call 21;(with_reducible refine (sr_ex_run0 _ _ _ (HG.out.below HBW.out) HRL.out).mono ?_);rintro e v0 ⟨rv,rfl,hq⟩;have HV0:=zlb;clear hq)
  |(go_at_call 28;(with_reducible refine (sr_book1_c 3 ⟨[68,111,103,115,32,97,110,100,32,67,97,116,115].toArray⟩ _).mono ?_);rintro e u2 ⟨fa2,fc2,rfl,hf2,hb2⟩;have HF2:=J hf2;have HB2:=J (Ac HB1.out hb2);have HX0:=J (HF0.out.below (Ac hb1x.out hb2));have HX1:=J (HF1.out.below hb2);clear hf2 hb2;obtain⟨W,hW⟩:∃ W,u2.alloc (.cells #[.int .i64 1,.int .i64 3,.int .i64 1,.string ⟨[101,110,103].toArray⟩,.slice fa0 2 fc0,.int .i64 2,.int .i64 3,.int .i64 1,.string ⟨[101,110,103].toArray⟩,.slice fa1 2 fc1,.int .i64 3,.int .i64 3,.int .i64 1,.string ⟨[101,110,103].toArray⟩,.slice fa2 1 fc2] 51)=W:=⟨_,rfl⟩;have hbW:Aa u2.heap.size u2 W:=(by rw[<- hW];exact A9 _ _);have KW:W.heap[u2.heap.size]?=A3 (.cells #[.int .i64 1,.int .i64 3,.int .i64 1,.string ⟨[101,110,103].toArray⟩,.slice fa0 2 fc0,.int .i64 2,.int .i64 3,.int .i64 1,.string ⟨[101,110,103].toArray⟩,.slice fa1 2 fc1,.int .i64 3,.int .i64 3,.int .i64 1,.string ⟨[101,110,103].toArray⟩,.slice fa2 1 fc2] 51 (0,0)):=(by rw[<- hW];exact Ae _ _);have HRL:Hid (Fy W (A3 ⟨u2.heap.size,0,A0⟩) 3 Jr):=J (Rc.RdA.of_fa (T:=[(Sr.book 1 [84,104,101,32,68,111,103,115] [49,57,57,56],fa0,fc0),(Sr.book 2 [67,97,116,115] [50,48,48,49],fa1,fc1),(Sr.book 3 [68,111,103,115,32,97,110,100,32,67,97,116,115] [],fa2,fc2)]) (Sr.lit_fa (enc:=Rc.encR) Rc.encR_len (xs:=[(Sr.book 1 [84,104,101,32,68,111,103,115] [49,57,57,56],fa0,fc0),(Sr.book 2 [67,97,116,115] [50,48,48,49],fa1,fc1),(Sr.book 3 [68,111,103,115,32,97,110,100,32,67,97,116,115] [],fa2,fc2)]) KW oZ) (fun t ht=>by rcases AL.1 ht with rfl | ht;exact HX0.out.below hbW;rcases AL.1 ht with rfl | ht;exact HX1.out.below hbW;rw[B9]at ht;rw[ht];exact HF2.out.below hbW));have HBW:=J (Ac HB2.out hbW);clear hbW KW)
  |(go_at_call 28;(with_reducible refine (sr_book2_c 2 ⟨[67,97,116,115].toArray⟩ ⟨[50,48,48,49].toArray⟩ _ oX).mono ?_);rintro e u1 ⟨fa1,fc1,rfl,hf1,hb1⟩;have HF1:=J hf1;have HB1:=J (Ac HB0.out hb1);have hb1x:=J hb1;clear hf1 hb1)
  |(go_at_call 28;(with_reducible refine (sr_book2_c 1 ⟨[84,104,101,32,68,111,103,115].toArray⟩ ⟨[49,57,57,56].toArray⟩ _ oX).mono ?_);rintro e u0 ⟨fa0,fc0,rfl,hf0,hb0⟩;have HF0:=J hf0;have HB0:=J (hb0);clear hf0 hb0))
 go_ret;exact⟨rfl,Ac HBW.out HZ2.out⟩
theorem ints_same_c (N:List Int) (a b:Option Aq) (c d:Nat) (w:Ab) (hx:DC w a c N) (hy:DC w b d N) :
  Af A8 14 #[.slice a N.length c,.slice b N.length d] w fun e w'=>e=.returned (.bool true)/\Aa w.heap.size w w':=by
 have h:=Ints_c N N a b c d w hx hy;rw[decide_eq_true rfl]at h;exact h
theorem u9o (h:P:=by
 go_enter Tryz.func6,Tryz.ntmps6
 go_wp2_with (first
  |(go_at_call 10;(with_reducible refine HA.out.mono ?_);rintro e w1 ⟨rfl,hb1⟩;have x0:=zig;have x1:=zif)
  |(go_at_call 11;(with_reducible refine (HRTT.out _ hb1).mono ?_);rintro e w2 ⟨rfl,hq⟩;have hb2:=Ac hb1 hq;have y0:=A4 hq x0;have y1:=A4 hq x1;clear hq)
  |(go_at_call 21;(with_reducible refine (HPC.out _ hb2).mono ?_);rintro e w3 ⟨v3,rfl,ho,hq⟩;obtain⟨pa,pc,rfl,hia,_⟩:=zrn;have HP:=J hia;have hb3:=Ac hb2 hq;have z0:=A4 hq y0;have z1:=A4 hq y1;clear hia ho hq)
  |(go_at_call 22;(with_reducible refine (HRC.out _ hb3).mono ?_);rintro e w4 ⟨v4,rfl,ho,hq⟩;obtain⟨ra,rc,rfl,hia,_⟩:=zrn;have HR:=J hia;have HP4:=J (HP.out.below hq);have hb4:=Ac hb3 hq;clear hia ho hq)
  |(go_at_call 14;(with_reducible refine (ints_same_c N _ _ _ _ _ HP4.out HR.out).mono ?_);rintro e w5 ⟨rfl,hb5⟩)
  |(go_at_call 11;(with_reducible refine (HRTT.out _ hb1).mono ?_);rintro e w2 ⟨rfl,hq⟩;have hb2:=Ac hb1 hq;clear hq))
 first
  |go_ret
   exact⟨rfl,Ac hB (Ac hb4 hb5)⟩
  |go_ret
   exact⟨rfl,Ac hB hb2⟩):P:=h
theorem run_law (l:List Ci) (la:Option Aq) (lc:Nat) (s:ByteArray) (by_:Int) (lang:ByteArray) (w:Ab) (hG:G w) (h:Fy w la lc l) :
  Af A8 6 #[.slice la l.length lc,.string s,.agg #[.int .i64 by_,.string lang]] w fun e w'=>e=.returned (.bool true)/\Aa w.heap.size w w':=by
 obtain⟨W,hW,hB,c0,c1⟩:=Tx.ent2 w (.int .i64 by_) (.string lang) 39;have HA:=J (sr_alive_c W (hG.below hB));have HG:=J (hG.below hB);have HL:=J (h.below hB);have HRT:Hid (∀ W',Aa W.heap.size W W'->Af A8 11 #[.slice la l.length lc] W' fun e w'=>∃ b:Bool,e=.returned (.bool b)/\(b=true↔Sr.RightP l)/\Aa W'.heap.size W' w'):=J (fun W' h9=>r22_Right_c l la lc W' ((h.below hB).below h9));by_cases hR:Sr.RightP l
 ·have RT:∀ W',Aa W.heap.size W W'->Af A8 11 #[.slice la l.length lc] W' fun e w'=>e=.returned (.bool true)/\Aa W'.heap.size W' w':=fun W' h9=>(HRT.out W' h9).mono fun e w' ⟨b,he,hb,hq⟩=>⟨by rw[he,hb.2 hR],hq⟩;have HRTT:=J RT;by_cases hs:s.size<=1200
  ·have hsi:¬ ((s.size:Int) > 1200):=oQ;by_cases hg:lang.size<=100
   ·have hgi:¬ ((lang.size:Int) > 100):=oQ;have PC:∀ W',Aa W.heap.size W W'->_:=fun W' h9=>search_Run_c l la lc s by_ lang W' (HG.out.below h9) (HL.out.below h9) hR.rl;have RC:∀ W',Aa W.heap.size W W'->_:=fun W' h9=>r22_Run_c l la lc s by_ lang W' (HL.out.below h9) hR.rl;obtain⟨N,hN⟩:∃ N,Sr.runL l s.data.toList by_ lang.data.toList=N:=⟨_,rfl⟩;obtain⟨E,hE⟩:=zlr;rw[hN,hE]at PC RC;have hEE:(E == E)=true:=beq_self_eq_true _;have HPC:=J PC;have HRC:=J RC;clear PC RC RT hN hE hR hs hg h hG HRT;exact u9o
   ·have hgi:((lang.size:Int) > 100):=oQ;clear RT hR hs hg h hG HRT;exact u9o
  ·have hsi:((s.size:Int) > 1200):=oQ;clear RT hR hs h hG HRT;exact u9o
 ·have RT:∀ W',Aa W.heap.size W W'->Af A8 11 #[.slice la l.length lc] W' fun e w'=>e=.returned (.bool false)/\Aa W'.heap.size W' w':=fun W' h9=>(HRT.out W' h9).mono fun e w' ⟨b,he,hb,hq⟩=>⟨by rw[he,Bool.eq_false_iff.2 (fun h8=>hR (hb.1 h8))],hq⟩;have HRTT:=J RT;clear RT hR h hG HRT;exact u9o
end Go.Proofs.YtlakomilichhnaaGreatDoor
